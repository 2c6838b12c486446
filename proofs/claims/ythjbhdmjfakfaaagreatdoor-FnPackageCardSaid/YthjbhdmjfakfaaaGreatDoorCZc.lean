/- A helper of this seat's claims (contracts of the functions): what it shows is shown for every input that its statements name, on no other condition. -/
import Derived.Test.YthjbhdmjfakfaaaGreatDoorCZb
set_option linter.unusedVariables false
set_option linter.unusedSimpArgs false
set_option maxRecDepth 100000
namespace Go.Proofs.YthjbhdmjfakfaaaGreatDoor
open Go.KH

/-! ## The program's digest: all of it -/
theorem pad_is (t : List UInt8) : t ++ [128] ++ List.replicate (padZ t.length) 0 ++ bigB (8 * t.length) 8 = shaPad t := by
  rw [bigB_8, shaPad]; simp only [padZ]
/-- impl.digest -/
def b_impl_digest : C := (.seq (.ops [q 2 (.mv (.c (str [])))])
 (.seq (.ops [q 9 (.ld true 8 (.c (ptr 0 0))), ⟨(some 3), none, .alloc [(.int .u32 0), (.int .u32 0), (.int .u32 0), (.int .u32 0), (.int .u32 0), (.int .u32 0), (.int .u32 0), (.int .u32 0)]⟩, ⟨none, none, .st 8 (.t 3) (.t 9)⟩])
 (.seq (.ops [q 10 (.mv (.t 0)), q 11 (.slen (.t 10)), q 12 (.bin .rem (.t 11) (.c (i64 64))), q 13 (.bin .sub (.c (i64 119)) (.t 12)), q 14 (.bin .rem (.t 13) (.c (i64 64))), q 4 (.mv (.t 14))])
 (.seq (.ops [q 15 (.mv (.t 0)), q 16 (.bin .add (.t 15) (.c (str [128]))), q 17 (.mv (.t 4)), ⟨(some 18), none, .call (.c (.func (.func 172) #[] #[])) [(.c (str [0])), (.t 17)]⟩, q 19 (.bin .add (.t 16) (.t 18)), q 20 (.mv (.t 0)), q 21 (.slen (.t 20)), q 22 (.cv .u64 (.t 21)), q 23 (.bin .mul (.c (.int .u64 8)) (.t 22)), ⟨(some 24), none, .call (.c (.func (.func 173) #[] #[])) [(.t 23), (.c (i64 8))]⟩, q 25 (.bin .add (.t 19) (.t 24)), q 5 (.mv (.t 25))])
 (.seq (.block 0 (.loop (.seq (.seq (.ops [q 26 (.mv (.t 5)), q 27 (.bin .neq (.t 26) (.c (str [])))])
 (.cond (.t 27) .skip (.exit 0)))
 (.seq (.block 1 (.ops [q 30 (.mv (.t 5)), q 31 (.ssl (.t 30) none (some (.c (i64 64)))), ⟨(some 32), none, .call (.c (.func (.func 174) #[] #[])) [(.t 3), (.t 31)]⟩]))
 (.ops [q 28 (.mv (.t 5)), q 29 (.ssl (.t 28) (some (.c (i64 64))) none), q 5 (.mv (.t 29))])))))
 (.seq (.ops [q 6 (.mv (.c (str [])))])
 (.seq (.seq (.ops [q 33 (.ld true 8 (.t 3)), q 34 (.mv (.c (i64 0)))])
 (.block 2 (.loop (.seq (.ops [q 35 (.bin .lss (.t 34) (.c (i64 8)))])
 (.seq (.cond (.t 35) .skip (.exit 2))
 (.seq (.block 3 (.seq (.ops [q 36 (.ix false 8 1 (.t 33) (.t 34)), q 8 (.mv (.t 36))])
 (.ops [q 37 (.mv (.t 6)), q 38 (.mv (.t 8)), q 39 (.cv .u64 (.t 38)), ⟨(some 40), none, .call (.c (.func (.func 173) #[] #[])) [(.t 39), (.c (i64 4))]⟩, q 41 (.bin .add (.t 37) (.t 40)), q 6 (.mv (.t 41))])))
 (.ops [q 42 (.bin .add (.t 34) (.c (i64 1))), q 34 (.mv (.t 42))])))))))
 (.seq (.ops [q 43 (.mv (.t 6)), q 2 (.mv (.t 43))])
 .ret))))))))
theorem w_impl_digest {args : List Value} {h : H} {Q : Value → H → Prop} (hl : args.length ≤ 44) (hk : wpc Tryz.prog b_impl_digest (retw [.tmp 2] Q) (argsFr args) h) : AC Tryz.prog 87 args h Q :=
  AC.of_wpc mixedOrders Tryz.func87 (by kernel_rfl) (by kernel_rfl : prepF Tryz.prog Tryz.f87 = some ⟨44, [.tmp 2], b_impl_digest⟩) hl hk

theorem digest_pc0 {h : H} (tb : Tabs h) (t d : List UInt8) (ht : t.length ≤ 8000) (hd : shaL t = d) : PC Tryz.prog 87 [str t] h (str d) := by
  have l0 := tb.start
  have hz : padZ t.length < 64 := by unfold padZ; omega
  have ez : ((119 : Int) - ((t.length % 64 : Nat) : Int)).tmod 64 = ((padZ t.length : Nat) : Int) := by
    rw [show (119 : Int) - ((t.length % 64 : Nat) : Int) = ((119 - t.length % 64 : Nat) : Int) by omega, show (64 : Int) = ((64 : Nat) : Int) from rfl, tmod_nat]; rfl
  have e64 : ((t.length : Nat) : Int).tmod 64 = ((t.length % 64 : Nat) : Int) := tmod_nat _ _
  have h64 : t.length % 64 < 64 := Nat.mod_lt _ (by decide)
  obtain ⟨r64, hr64⟩ : ∃ r, t.length % 64 = r := ⟨_, rfl⟩
  obtain ⟨pz, hpz⟩ : ∃ r, padZ t.length = r := ⟨_, rfl⟩
  rw [hr64] at ez e64 h64
  rw [hpz] at hz ez
  refine PC_of ?_
  refine w_impl_digest (by simp) ?_
  unfold b_impl_digest
  simp -implicitDefEqProofs only [go_sem, l0]
  intro b3 hb3 n3
  have hst : ∀ cs : List Value, cs.length = 8 → stc (h.set b3 ⟨cs, 8⟩) b3 0 (wcl shaStart.list) 8 = some (h.set b3 ⟨wcl shaStart.list, 8⟩) := by
    intro cs hcs
    rw [stc_same, if_pos ⟨rfl, by simp only [hcs]; decide, rfl⟩]
    congr 2
    simp only [splice, List.take_zero, List.nil_append]
    rw [List.drop_eq_nil_of_le (by rw [hcs]; decide), List.append_nil]
  have e3 : Ext h (h.set b3 ⟨wcl shaStart.list, 8⟩) := (Ext.refl _).set n3 _
  have g3 : (h.set b3 ⟨wcl shaStart.list, 8⟩).get b3 = some ⟨wcl (shaBlocks (shaPad t) shaStart 0).list, 8⟩ := H.set_get_same _ _ _
  have hst0 := hst [.int .u32 0, .int .u32 0, .int .u32 0, .int .u32 0, .int .u32 0, .int .u32 0, .int .u32 0, .int .u32 0] rfl
  simp -implicitDefEqProofs only [go_sem, hst0, hb3]
  clear hst0 hst
  have b3' : (h.set b3 ⟨wcl shaStart.list, 8⟩).base ≤ b3 := by rw [H.set_base]; exact hb3
  generalize h.set b3 ⟨wcl shaStart.list, 8⟩ = h1 at *
  have w1 : IntKind.i64.wrap (r64 : Int) = r64 := wrap_i64 (show -(9223372036854775808 : Int) ≤ (r64 : Int) by omega) (show (r64 : Int) < 9223372036854775808 by omega)
  have w2 : IntKind.i64.wrap (119 - (r64 : Int)) = 119 - (r64 : Int) := wrap_i64 (show -(9223372036854775808 : Int) ≤ (119 - (r64 : Int)) by omega) (show (119 - (r64 : Int)) < 9223372036854775808 by omega)
  have w3 : IntKind.i64.wrap (pz : Int) = pz := wrap_i64 (show -(9223372036854775808 : Int) ≤ (pz : Int) by omega) (show (pz : Int) < 9223372036854775808 by omega)
  skip
  simp -implicitDefEqProofs only [go_sem, e64, w1, w2, w3, ez, hb3]
  refine Req.of (by omega) ?_
  have tb1 := tb.ext e3
  have e8 : (8 * (t.length : Int)) = ((8 * t.length : Nat) : Int) := by omega
  simp -implicitDefEqProofs only [go_sem, e64, w1, w2, w3, ez, hb3]
  refine (repeat_pc h1 0 pz (by omega)).use ?_
  simp -implicitDefEqProofs only [go_sem, List.length_replicate, e64, w1, w2, w3, ez, hb3]
  refine Req.of (by rw [List.length_append]; simp only [List.length_cons, List.length_nil]; omega) ?_
  have w4 := wrap_u64 (n := (t.length : Int)) (by omega) (by omega)
  have w5 : IntKind.u64.wrap (8 * (t.length : Int)) = ((8 * t.length : Nat) : Int) := by rw [wrap_u64 (by omega) (by omega)]; omega
  skip
  simp -implicitDefEqProofs only [go_sem, e64, w1, w2, w3, ez, hb3, w4, w5]
  refine (bigBytes_pc h1 (8 * t.length) 8 (by omega) (by decide)).use ?_
  have hpad := pad_is t
  rw [hpz] at hpad
  have hlb : (bigB (8 * t.length) 8).length = 8 := by rw [← bigTo_all, bigTo_len]
  simp -implicitDefEqProofs only [go_sem, hlb, List.length_replicate, e64, w1, w2, w3, ez, hb3, w4, w5]
  refine Req.of (by rw [List.length_append, List.length_append, List.length_replicate]; simp only [List.length_cons, List.length_nil]; omega) ?_
  rw [hpad]
  simp -implicitDefEqProofs only [go_sem, e64, w1, w2, w3, ez, hb3, w4, w5]
  have hL := shaPad_len t
  obtain ⟨L, hLd⟩ : ∃ L, (shaPad t).length / 64 = L := ⟨_, rfl⟩
  rw [hLd] at hL
  generalize hP : shaPad t = P at *
  skip
  refine loopW_of (fun m f h' => ∃ j, m + j = L ∧ f 3 = ptr b3 0 ∧ f 5 = str (P.drop (64 * j)) ∧ Ext h h' ∧ h'.get b3 = some ⟨wcl (shaBlocks P shaStart j).list, 8⟩) L
    ⟨0, by simp, by simp -implicitDefEqProofs only [go_sem, hb3], by simp -implicitDefEqProofs only [go_sem, hb3], e3, g3⟩ ?_
  clear w1 w2 w3 w4 w5
  rintro m f h' ⟨j, hm, f3, f5, e4, g4⟩
  have b4 : h'.base ≤ b3 := by rw [e4.1, ← e3.1]; exact b3'
  by_cases hj : j < L
  · have hdl : (P.drop (64 * j)).length = P.length - 64 * j := List.length_drop
    have hne : ¬ (P.drop (64 * j) = []) := fun e => by rw [e] at hdl; simp at hdl; omega
    have hl64 : ((P.drop (64 * j)).take 64).length = 64 := by rw [List.length_take, hdl]; omega
    simp -implicitDefEqProofs only [go_sem, f3, f5, hne, hdl, show (64 : Int) ≤ ((P.length - 64 * j : Nat) : Int) by omega, show (0 : Int) ≤ ((P.length - 64 * j : Nat) : Int) by omega, hb3]
    have tb4 := tb.ext e4
    have ac := digestBlock_ac0 (l := (P.drop (64 * j)).take 64) rfl tb4 g4 b4 hl64
    refine AC_of ac ?_
    rintro r h5 - ⟨k5, g5⟩
    have e5 : Ext h h5 := Keep.ext e4 k5 (fun b e => by subst e; exact n3)
    simp -implicitDefEqProofs only [go_sem, f3, f5, hne, hdl, show (64 : Int) ≤ ((P.length - 64 * j : Nat) : Int) by omega, show (0 : Int) ≤ ((P.length - 64 * j : Nat) : Int) by omega, Int.reduceToNat, List.drop_drop, hb3]
    exact ⟨m - 1, by omega, _, Ext.refl _, j + 1, by omega, by rw [List.take_of_length_le (by omega), List.drop_drop, Nat.mul_add], e5, g5⟩
  obtain rfl : j = L := by omega
  have hnil : P.drop (64 * j) = [] := List.drop_eq_nil_of_le (by omega)
  rw [hnil] at f5
  obtain ⟨S, hS⟩ : ∃ S, shaBlocks P shaStart j = S := ⟨_, rfl⟩
  have hdd : outB S 8 = d := by rw [← hd]; unfold shaL outB; rw [hP, hLd, hS]; rfl
  rw [hS] at g4
  have l8 : ldc h' b3 0 8 = some (wcl S.list) := by
    rw [ldc_get g4, if_pos (by rw [wcl_len]; exact Nat.le_refl 8)]; rfl
  simp -implicitDefEqProofs only [go_sem, f3, f5, l8, hb3]
  clear l8 hd hS
  refine loopW_of (fun m f h2 => ∃ k, m + k = 8 ∧ h2 = h' ∧ f 33 = .agg (wcl S.list).toArray ∧ f 34 = i64 k ∧ f 6 = str (outB S k)) 8
    ⟨0, by simp, rfl, by simp -implicitDefEqProofs only [go_sem, hb3], by simp -implicitDefEqProofs only [go_sem, hb3]; rfl, by simp -implicitDefEqProofs only [go_sem, hb3]; rfl⟩ ?_
  clear f3 f5 hm m f
  rintro m f h2 ⟨k, hm, rfl, f33, f34, f6⟩
  by_cases hk : k < 8
  · obtain ⟨x, hx⟩ : ∃ x, S.list[k]? = some x := ⟨_, List.getElem?_eq_getElem (by show k < 8; exact hk)⟩
    have hv : (wcl S.list)[k]? = some (w32 x) := by rw [wcl, List.getElem?_map, hx]; rfl
    have hlo := outB_len S k (by omega)
    have hx32 := x.isLt
    have wx : IntKind.u64.wrap (x.toNat : Int) = x.toNat := wrap_u64 (by omega) (by omega)
    simp -implicitDefEqProofs only [go_sem, f33, f34, f6, show (k : Int) < 8 by omega, Int.natCast_nonneg, Int.toNat_natCast, Nat.mul_one, show (k : Int) < ((8 : Nat) : Int) by omega, hv, wx, hb3]
    refine (bigBytes_pc h2 x.toNat 4 (by omega) (by decide)).use ?_
    rw [bigB_4]
    have hb4 : (beB x).length = 4 := rfl
    simp -implicitDefEqProofs only [go_sem, f34, f6, hlo, hb4, wrap_i64 (show -(9223372036854775808 : Int) ≤ ((k : Int) + 1) by omega) (show ((k : Int) + 1) < 9223372036854775808 by omega), hb3]
    refine Req.of (by omega) ?_
    simp -implicitDefEqProofs only [go_sem, f33, f34, wrap_i64 (show -(9223372036854775808 : Int) ≤ ((k : Int) + 1) by omega) (show ((k : Int) + 1) < 9223372036854775808 by omega), hb3]
    exact ⟨m - 1, by omega, _, Ext.refl _, k + 1, by omega, rfl, rfl, by rw [outB_succ hx]⟩
  obtain rfl : k = 8 := by omega
  rw [hdd] at f6
  simp -implicitDefEqProofs only [go_sem, f33, f34, f6, show ¬ (((8 : Nat) : Int) < 8) by omega, hb3]
  exact e4
theorem digest_pc {h : H} (tb : Tabs h) (t : List UInt8) (ht : t.length ≤ 8000) : PC Tryz.prog 87 [str t] h (str (shaL t)) := digest_pc0 tb t _ ht rfl
end Go.Proofs.YthjbhdmjfakfaaaGreatDoor
