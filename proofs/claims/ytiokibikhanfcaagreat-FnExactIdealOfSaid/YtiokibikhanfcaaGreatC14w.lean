/- A helper of this seat's claims (contracts of the functions): what it shows is shown for every input that its statements name, on no other condition. -/
import Derived.Test.YtiokibikhanfcaaGreatC14v
import Derived.Test.YtiokibikhanfcaaGreatC10s
import Derived.Test.YtiokibikhanfcaaGreatC11q
set_option linter.unusedVariables false
set_option linter.unusedSimpArgs false
set_option maxRecDepth 100000
namespace Go.Proofs.YtiokibikhanfcaaGreat
open Go.KH

/-! ## The image that a machine presents -/
def isDo (b : Int) (x : UMove) : Bool := decide (x.kind = 2 ∧ x.block = b)
noncomputable def doneB (m : UMach) (s : UState) (b : Int) : Bool := ((movesM m s).take s.done.toNat).any (isDo b)
noncomputable def foldV (m : UMach) (s : UState) : List (List UInt8) := (wrM m s).foldl (setIf (fun x => !doneB m s x.dst) (fun x => x.dst.toNat) (madeM m s)) (baseOf m)
noncomputable def specV (m : UMach) (s : UState) : List (List UInt8) := ((movesM m s).drop s.done.toNat).foldl (setIf (fun x : UMove => decide (x.kind = 2)) (fun x => x.block.toNat) (fun x => madeM m s (stAt (wrM m s) x.step.toNat))) (baseOf m)
theorem Fold.uniq {m : UMach} {s : UState} (f : Fold m s) {i j : Nat} (hi : i < (wrM m s).length) (hj : j < (wrM m s).length) (h : (stAt (wrM m s) i).dst.toNat = (stAt (wrM m s) j).dst.toNat) : i = j := by
  apply Classical.byContradiction
  intro hne
  have h1 := f.runs.1.ne hi hj hne
  have h2 := (f.x (x := stAt (wrM m s) i) (by rw [stAt_get hi]; exact List.getElem_mem hi)).2.2.1
  have h3 := (f.x (x := stAt (wrM m s) j) (by rw [stAt_get hj]; exact List.getElem_mem hj)).2.2.1
  omega
theorem foldV_eq {m : UMach} {s : UState} (f : Fold m s) : foldV m s = specV m s := by
  obtain ⟨n, hdid, _⟩ := plan_has (f.runs.1.apart)
  have hsh := plan_shape (wrM m s)
  have inw : ∀ {i}, i < (wrM m s).length → stAt (wrM m s) i ∈ wrM m s := fun hi => by rw [stAt_get hi]; exact List.getElem_mem hi
  have split : ∀ i, didN (planB (wrM m s)) i = didN ((movesM m s).take s.done.toNat) i + didN ((movesM m s).drop s.done.toNat) i := fun i => by
    unfold didN
    rw [← List.length_append, ← List.filter_append, List.take_append_drop]; rfl
  have inT : ∀ {x}, x ∈ (movesM m s).take s.done.toNat → MvShape (wrM m s) x := fun h => hsh _ (List.mem_of_mem_take h)
  have inD : ∀ {x}, x ∈ (movesM m s).drop s.done.toNat → MvShape (wrM m s) x := fun h => hsh _ (List.mem_of_mem_drop h)
  have pos : ∀ {l : List UMove} {x : UMove} {i : Nat}, x ∈ l → x.kind = 2 → x.step = (i : Int) → 1 ≤ didN l i := fun {l x i} hx hk hs => by
    unfold didN
    exact List.length_pos_of_mem (List.mem_filter.2 ⟨hx, by simp [hk, hs]⟩)
  have get : ∀ {l : List UMove} {i : Nat}, 1 ≤ didN l i → ∃ x ∈ l, x.kind ≠ 1 ∧ x.step = (i : Int) := fun {l i} h => by
    unfold didN at h
    obtain ⟨x, hx⟩ := List.exists_mem_of_length_pos (Nat.lt_of_lt_of_le Nat.zero_lt_one h)
    rw [List.mem_filter] at hx
    simp only [Bool.and_eq_true, Bool.not_eq_true', decide_eq_false_iff_not, decide_eq_true_eq] at hx
    exact ⟨x, hx.1, hx.2.1, hx.2.2⟩
  have notdone : ∀ {x i}, x ∈ (movesM m s).drop s.done.toNat → x.kind = 2 → x.step = ((i : Nat) : Int) → i < (wrM m s).length → doneB m s (stAt (wrM m s) i).dst = false := fun {x i} hx hk hs hi => by
    cases hd : doneB m s (stAt (wrM m s) i).dst with
    | false => rfl
    | true =>
      unfold doneB at hd
      obtain ⟨y, hy, hd⟩ := List.any_eq_true.1 hd
      simp only [isDo, decide_eq_true_eq] at hd
      obtain ⟨j, hj, hs', hb, _⟩ := inT hy
      have : j = i := f.uniq hj hi (by rw [← hb, hd.2])
      subst this
      have p1 := pos hy hd.1 hs'
      have p2 := pos hx hk hs
      have := split j
      have := hdid j hi
      omega
  unfold foldV specV
  refine setIf_same (fun b => if h : ∃ i, i < (wrM m s).length ∧ (stAt (wrM m s) i).dst.toNat = b then madeM m s (stAt (wrM m s) (Classical.choose h)) else []) ?_ ?_ ?_
  · intro x hx _
    obtain ⟨i, hi, rfl⟩ := List.getElem_of_mem hx
    have h : ∃ j, j < (wrM m s).length ∧ (stAt (wrM m s) j).dst.toNat = ((wrM m s)[i]).dst.toNat := ⟨i, hi, by rw [stAt_get hi]⟩
    rw [dif_pos h]
    have hc := Classical.choose_spec h
    have : Classical.choose h = i := f.uniq hc.1 hi (by rw [hc.2, stAt_get hi])
    rw [this, stAt_get hi]
  · intro x hx hk
    obtain ⟨i, hi, hs, hb, _⟩ := inD hx
    have h : ∃ j, j < (wrM m s).length ∧ (stAt (wrM m s) j).dst.toNat = x.block.toNat := ⟨i, hi, by rw [hb]⟩
    rw [dif_pos h]
    have hc := Classical.choose_spec h
    have : Classical.choose h = i := f.uniq hc.1 hi (by rw [hc.2, hb])
    rw [this, hs, Int.toNat_natCast]
  · intro b
    constructor
    · rintro ⟨x, hx, hd, hb⟩
      obtain ⟨i, hi, rfl⟩ := List.getElem_of_mem hx
      have h1 := hdid i hi
      rw [split] at h1
      by_cases h2 : 1 ≤ didN ((movesM m s).take s.done.toNat) i
      · obtain ⟨y, hy, hk, hs⟩ := get h2
        obtain ⟨j, hj, hs', hbl, hk'⟩ := inT hy
        have : j = i := by omega
        subst this
        have : doneB m s ((wrM m s)[j]).dst = true := by
          unfold doneB
          refine List.any_eq_true.2 ⟨y, hy, ?_⟩
          simp only [isDo, decide_eq_true_eq]
          exact ⟨by omega, by rw [hbl, stAt_get hi]⟩
        rw [this] at hd; cases hd
      · obtain ⟨y, hy, hk, hs⟩ := get (l := (movesM m s).drop s.done.toNat) (i := i) (by omega)
        obtain ⟨j, hj, hs', hbl, hk'⟩ := inD hy
        have : j = i := by omega
        subst this
        exact ⟨y, hy, by simp only [decide_eq_true_eq]; omega, by rw [hbl, stAt_get hi]; exact hb⟩
    · rintro ⟨y, hy, hk, hb⟩
      simp only [decide_eq_true_eq] at hk
      obtain ⟨i, hi, hs, hbl, _⟩ := inD hy
      exact ⟨stAt (wrM m s) i, inw hi, by rw [notdone hy hk hs hi]; rfl, by rw [← hbl]; exact hb⟩
/-- (impl.Machine).view$1$1 -/
def b_impl_Machine_view_1_1 : C := (.seq (.ops [⟨(some 2), none, .box (.t 0)⟩, q 3 (.mv (.c (.bool false)))])
 (.seq (.ops [q 4 (.fld 0 (.t 2)), q 5 (.ld false 1 (.t 4)), q 6 (.bin .eql (.t 5) (.c (i64 2))), q 7 (.mv (.t 6)), qg 8 7 true (.fld 2 (.t 2)), qg 9 7 true (.ld false 1 (.t 8)), qg 10 7 true (.ld false 1 (.t 1)), qg 11 7 true (.bin .eql (.t 9) (.t 10)), q 12 (.pick (.t 7) (.t 11) (.c (.bool false))), q 3 (.mv (.t 12))])
 .ret))
theorem w_impl_Machine_view_1_1 {args : List Value} {h : H} {Q : Value → H → Prop} (hl : args.length ≤ 13) (hk : wpc Tryz.prog b_impl_Machine_view_1_1 (retw [.tmp 3] Q) (argsFr args) h) : AC Tryz.prog 130 args h Q :=
  AC.of_wpc mixedOrders Tryz.func130 (by kernel_rfl) (by kernel_rfl : prepF Tryz.prog Tryz.f130 = some ⟨13, [.tmp 3], b_impl_Machine_view_1_1⟩) hl hk

theorem view11_pc {h : H} {x : UMove} {b : Nat} {to : Int} (hb : ldc h b 0 1 = some [i64 to]) : PC Tryz.prog 130 [.agg x.cells.toArray, ptr b 0] h (.bool (isDo to x)) := by
  refine PC_of ?_
  unfold isDo
  refine w_impl_Machine_view_1_1 (by simp) ?_
  unfold b_impl_Machine_view_1_1
  simp -implicitDefEqProofs only [go_sem]
  intro b2 hb_b2 n_b2
  have hb2 : ∀ z, ldc (h.set b2 z) b 0 1 = some [i64 to] := fun z => ldc_sub ((Ext.refl h).set' n_b2 z).2 hb
  simp -implicitDefEqProofs only [go_sem, hb_b2]
  by_cases hk : x.kind = 2
  · simp -implicitDefEqProofs only [go_sem, hb2, eq_true hk, hb_b2]
    first | exact ((Ext.refl _).set' n_b2 _) | exact ⟨((Ext.refl _).set' n_b2 _), by simp⟩
  · simp -implicitDefEqProofs only [go_sem, eq_false hk, hb_b2]
    first | exact ((Ext.refl _).set' n_b2 _) | exact ⟨((Ext.refl _).set' n_b2 _), by simp⟩
/-- slices.ContainsFunc[[]impl.Move,impl.Move] -/
def b_slices_ContainsFunc_impl_Move_impl_Move : C := (.seq (.ops [q 4 (.mv (.c (.bool false)))])
 (.seq (.ops [q 5 (.mv (.t 0)), q 6 (.mv (.t 1)), ⟨(some 7), none, .call (.c (.func (.func 192) #[] #[])) [(.t 5), (.t 6)]⟩, q 8 (.bin .geq (.t 7) (.c (i64 0))), q 4 (.mv (.t 8))])
 .ret))
theorem w_slices_ContainsFunc_impl_Move_impl_Move {args : List Value} {h : H} {Q : Value → H → Prop} (hl : args.length ≤ 9) (hk : wpc Tryz.prog b_slices_ContainsFunc_impl_Move_impl_Move (retw [.tmp 4] Q) (argsFr args) h) : AC Tryz.prog 129 args h Q :=
  AC.of_wpc mixedOrders Tryz.func129 (by kernel_rfl) (by kernel_rfl : prepF Tryz.prog Tryz.f129 = some ⟨9, [.tmp 4], b_slices_ContainsFunc_impl_Move_impl_Move⟩) hl hk

/-- slices.IndexFunc[[]impl.Move,impl.Move] -/
def b_slices_IndexFunc_impl_Move_impl_Move : C := (.seq (.ops [q 4 (.mv (.c (i64 0)))])
 (.seq (.seq (.ops [q 6 (.mv (.t 0)), q 7 (.len (.t 6)), q 8 (.mv (.c (i64 0)))])
 (.block 0 (.loop (.seq (.ops [q 9 (.bin .lss (.t 8) (.t 7))])
 (.seq (.cond (.t 9) .skip (.exit 0))
 (.seq (.block 1 (.seq (.ops [q 10 (.mv (.t 8)), q 5 (.mv (.t 10))])
 (.seq (.ops [q 11 (.mv (.t 1)), q 12 (.mv (.t 0)), q 13 (.mv (.t 5)), q 14 (.idx 4 (.t 12) (.t 13)), q 15 (.ld true 4 (.t 14)), ⟨(some 16), none, .call (.t 11) [(.t 15)]⟩])
 (.cond (.t 16) (.seq (.ops [q 17 (.mv (.t 5)), q 4 (.mv (.t 17))])
 .ret) .skip))))
 (.ops [q 18 (.bin .add (.t 8) (.c (i64 1))), q 8 (.mv (.t 18))])))))))
 (.seq (.ops [q 4 (.mv (.c (i64 (-1))))])
 .ret)))
theorem w_slices_IndexFunc_impl_Move_impl_Move {args : List Value} {h : H} {Q : Value → H → Prop} (hl : args.length ≤ 19) (hk : wpc Tryz.prog b_slices_IndexFunc_impl_Move_impl_Move (retw [.tmp 4] Q) (argsFr args) h) : AC Tryz.prog 192 args h Q :=
  AC.of_wpc mixedOrders Tryz.func192 (by kernel_rfl) (by kernel_rfl : prepF Tryz.prog Tryz.f192 = some ⟨19, [.tmp 4], b_slices_IndexFunc_impl_Move_impl_Move⟩) hl hk

theorem containsMove_pc {h : H} {v : Value} {l : List UMove} {p : UMove → Bool} {n : Nat} {caps : List Value} (hv : Sl h v 4 (l.map UMove.cells)) (hn : l.length ≤ 1048576) (hc : ∀ x, x ∈ l → PC Tryz.prog n (.agg x.cells.toArray :: caps) h (.bool (p x))) :
    PC Tryz.prog 129 [v, .func (.func n) #[] caps.toArray] h (.bool (l.any p)) := by
  rw [← firstAt_any]
  refine w_slices_ContainsFunc_impl_Move_impl_Move (by simp) ?_
  unfold b_slices_ContainsFunc_impl_Move_impl_Move
  simp -implicitDefEqProofs only [go_sem]
  have this := (w_slices_IndexFunc_impl_Move_impl_Move (by simp) (if_wpc (p := p) (n := n) (caps := caps) hv hn hc ⟨rfl, rfl⟩) : PC Tryz.prog 192 [v, .func (.func n) #[] caps.toArray] h (i64 (firstAt p l)))
  refine PC.use this ?_
  simp -implicitDefEqProofs only [go_sem]
/-- (impl.Machine).view$1 -/
def b_impl_Machine_view_1 : C := (.seq (.ops [⟨(some 3), none, .box (.t 0)⟩, q 4 (.mv (.c (.bool false)))])
 (.seq (.ops [q 5 (.ld false 1 (.t 1)), q 6 (.fld 4 (.t 2)), q 7 (.ld false 1 (.t 6)), q 8 (.lsl 4 (.t 5) none (some (.t 7))), q 9 (.mkf 130 [(.t 3)]), ⟨(some 10), none, .call (.c (.func (.func 129) #[] #[])) [(.t 8), (.t 9)]⟩, q 4 (.mv (.t 10))])
 .ret))
theorem w_impl_Machine_view_1 {args : List Value} {h : H} {Q : Value → H → Prop} (hl : args.length ≤ 11) (hk : wpc Tryz.prog b_impl_Machine_view_1 (retw [.tmp 4] Q) (argsFr args) h) : AC Tryz.prog 128 args h Q :=
  AC.of_wpc mixedOrders Tryz.func128 (by kernel_rfl) (by kernel_rfl : prepF Tryz.prog Tryz.f128 = some ⟨11, [.tmp 4], b_impl_Machine_view_1⟩) hl hk

theorem view1_pc {h : H} {vm : Value} {m : UMach} {s : UState} {b7 b3 : Nat} {uh um : Value} {to : Int} (f : Fold m s) (hm : Sl h vm 4 ((movesM m s).map UMove.cells)) (g7 : h.get b7 = some ⟨[vm], 1⟩) (g3 : h.get b3 = some ⟨s.cells uh um, 8⟩) : PC Tryz.prog 128 [i64 to, ptr b7 0, ptr b3 0] h (.bool (doneB m s to)) := by
  have hdl := f.done
  have hdn := ok_done f.ok
  have h28 := moves_28 f.code
  have ll : ((movesM m s).map UMove.cells).length = (movesM m s).length := by simp
  obtain ⟨a, c, rfl⟩ := hm.shape
  rw [ll] at hm
  have hcap : (movesM m s).length ≤ c := by
    obtain ⟨_, _, _, _, e, hc, _⟩ := hm
    simp only [Value.slice.injEq] at e
    rw [ll] at hc
    omega
  refine PC_of ?_
  unfold doneB
  skip
  refine w_impl_Machine_view_1 (by simp) ?_
  unfold b_impl_Machine_view_1
  simp -implicitDefEqProofs only [go_sem, ll]
  intro bx hb_bx n_bx
  have G7 := ((Ext.refl h).set n_bx ⟨[i64 to], 1⟩).2.g b7 _ g7
  have G3 := ((Ext.refl h).set n_bx ⟨[i64 to], 1⟩).2.g b3 _ g3
  simp -implicitDefEqProofs only [go_sem, ldc_get G7, ldc_get G3, show 0 ≤ s.done ∧ s.done ≤ (c : Int) by omega, ll, hb_bx]
  have ht := (hm.ext ((Ext.refl h).set n_bx ⟨[i64 to], 1⟩)).take (hi := s.done.toNat) (by omega)
  rw [← List.map_take] at ht
  refine (containsMove_pc (p := isDo to) (caps := [ptr bx 0]) ht (by rw [List.length_take]; omega) (fun x _ => view11_pc (to := to) (by simp -implicitDefEqProofs only [go_sem, ll, hb_bx]))).use ?_
  simp -implicitDefEqProofs only [go_sem, ll, hb_bx]
  exact ((Ext.refl _).set' n_bx _)
noncomputable def viewM (m : UMach) (s : UState) : List (List UInt8) := if s.phase = 4 then applyB (baseOf m) (logOf m s) else if s.phase = 5 then foldV m s else baseOf m
theorem foldV_len (m : UMach) (s : UState) : (foldV m s).length = (baseOf m).length := setIf_len ..
theorem viewM_len (m : UMach) (s : UState) : (viewM m s).length = (baseOf m).length := by
  unfold viewM
  split
  · exact applyB_len _ _
  · split
    · exact foldV_len m s
    · rfl
noncomputable def imgK (m : UMach) (s : UState) (k : Nat) : List (List UInt8) := ((wrM m s).take k).foldl (setIf (fun x => !doneB m s x.dst) (fun x => x.dst.toNat) (madeM m s)) (baseOf m)
theorem imgK_len (m : UMach) (s : UState) (k : Nat) : (imgK m s k).length = (baseOf m).length := setIf_len ..
theorem imgK_succ (m : UMach) (s : UState) {k : Nat} (hk : k < (wrM m s).length) : imgK m s (k + 1) = if doneB m s ((wrM m s)[k]).dst = true then imgK m s k else (imgK m s k).set ((wrM m s)[k]).dst.toNat (madeM m s (wrM m s)[k]) := by
  unfold imgK
  rw [List.take_succ_eq_append_getElem hk, List.foldl_append, List.foldl_cons, List.foldl_nil]
  generalize ((wrM m s).take k).foldl _ _ = im
  unfold setIf
  by_cases hd : doneB m s ((wrM m s)[k]).dst = true
  · simp [hd]
  · simp [hd]
/-- (impl.Machine).view -/
def b_impl_Machine_view : C := (.seq (.ops [⟨(some 1), none, .box (.t 0)⟩, q 2 (.mv (.c nils))])
 (.seq (.ops [q 12 (.ld true 3 (.t 1)), ⟨(some 13), none, .call (.c (.func (.func 44) #[] #[])) [(.t 12)]⟩, q 11 (.mv (.t 13)), q 14 (.ext 0 (.t 11)), q 15 (.ext 1 (.t 11)), ⟨(some 3), none, .alloc [(i64 0), (i64 0), (i64 0), (i64 0), (i64 0), (str []), nils, nils]⟩, ⟨none, none, .st 8 (.t 3) (.t 14)⟩, q 4 (.mv (.t 15))])
 (.seq (.dops true (.tk (q 16 (.ld true 3 (.t 1))) (.tk (q 18 (.ld true 3 (.t 1))) (.tk (q 19 (.ld true 8 (.t 3))) (.sq (⟨(some 17), none, .call (.c (.func (.func 53) #[] #[])) [(.t 16)]⟩) (.sq (⟨(some 20), none, .call (.c (.func (.func 88) #[] #[])) [(.t 18), (.t 19)]⟩) (.tk (q 5 (.mv (.t 17))) (.tk (q 6 (.mv (.t 20))) .nil))))))))
 (.seq (.seq (.ops [q 21 (.fld 0 (.t 3)), q 22 (.ld false 1 (.t 21))])
 (.block 0 (.seq (.ops [q 24 (.bin .eql (.t 22) (.c (i64 4))), q 23 (.mv (.t 24))])
 (.cond (.t 23) (.seq (.ops [q 25 (.mv (.t 5)), q 26 (.mv (.t 6)), ⟨(some 27), none, .call (.c (.func (.func 127) #[] #[])) [(.t 25), (.t 26)]⟩, q 2 (.mv (.t 27))])
 .ret) (.seq (.ops [q 29 (.bin .eql (.t 22) (.c (i64 5))), q 28 (.mv (.t 29))])
 (.cond (.t 28) (.seq (.ops [q 30 (.mv (.t 6)), ⟨(some 31), none, .call (.c (.func (.func 90) #[] #[])) [(.t 30)]⟩, ⟨(some 7), none, .alloc [nils]⟩, ⟨none, none, .st 1 (.t 7) (.t 31)⟩])
 (.seq (.ops [q 32 (.mkf 128 [(.t 7), (.t 3)]), q 8 (.mv (.t 32))])
 (.seq (.ops [q 33 (.mv (.t 6)), ⟨(some 34), none, .call (.c (.func (.func 131) #[] #[])) [(.t 33)]⟩, q 35 (.len (.t 34)), q 36 (.mv (.c (i64 0)))])
 (.block 1 (.loop (.seq (.ops [q 37 (.bin .lss (.t 36) (.t 35))])
 (.seq (.cond (.t 37) .skip (.exit 1))
 (.seq (.block 2 (.seq (.ops [q 38 (.idx 4 (.t 34) (.t 36)), q 39 (.ld true 4 (.t 38)), ⟨(some 10), none, .alloc [(i64 0), (i64 0), (i64 0), (str [])]⟩, ⟨none, none, .st 4 (.t 10) (.t 39)⟩])
 (.seq (.ops [q 40 (.mv (.t 8)), q 41 (.fld 1 (.t 10)), q 42 (.ld false 1 (.t 41)), ⟨(some 43), none, .call (.t 40) [(.t 42)]⟩, q 44 (.un .not (.t 43))])
 (.cond (.t 44) (.dops true (.tk (q 45 (.mv (.t 5))) (.tk (q 46 (.fld 1 (.t 10))) (.tk (q 47 (.ld false 1 (.t 46))) (.tk (q 48 (.ld true 3 (.t 1))) (.tk (q 49 (.ld true 8 (.t 3))) (.tk (q 50 (.ld false 1 (.t 7))) (.tk (q 51 (.ld true 4 (.t 10))) (.sq (⟨(some 52), none, .call (.c (.func (.func 132) #[] #[])) [(.t 48), (.t 49), (.t 50), (.t 51)]⟩) (.tk (q 53 (.idx 1 (.t 45) (.t 47))) (.lt (⟨none, none, .st 1 (.t 53) (.t 52)⟩) .nil))))))))))) .skip))))
 (.ops [q 54 (.bin .add (.t 36) (.c (i64 1))), q 36 (.mv (.t 54))]))))))))) .skip))))))
 (.seq (.ops [q 55 (.mv (.t 5)), q 2 (.mv (.t 55))])
 .ret)))))
theorem w_impl_Machine_view {args : List Value} {h : H} {Q : Value → H → Prop} (hl : args.length ≤ 56) (hk : wpc Tryz.prog b_impl_Machine_view (retw [.tmp 2] Q) (argsFr args) h) : AC Tryz.prog 66 args h Q :=
  AC.of_wpc mixedOrders Tryz.func66 (by kernel_rfl) (by kernel_rfl : prepF Tryz.prog Tryz.f66 = some ⟨56, [.tmp 2], b_impl_Machine_view⟩) hl hk

set_option maxHeartbeats 3200000 in
theorem view_ac {h : H} {cs : List Value} {m : UMach} {s : UState} (hv : RepR h (spMach m) cs) (hs : m.flash.fin1) (hst : stM m = some s) (hi : imageOk (baseOf m)) (hsd : soundM m s) : AC Tryz.prog 66 [.agg cs.toArray] h fun r h' => Ext h h' ∧ Fre h h' r 1 (strs (viewM m s)) := by
  have hv0 := hv
  obtain ⟨hf, hok⟩ := stM_ok hst
  have h20 := logOf_len m hok
  have hbl := baseOf_len hf
  obtain ⟨vs, vd, rfl, fr⟩ := mach_r.1 hv
  have o4 := fr.1.one
  have o5 := fr.2.one
  have c4 : vcl vs = [vs] := fr.1.vcl
  have c5 : vcl vd = [vd] := fr.2.vcl
  skip
  refine w_impl_Machine_view (by simp) ?_
  unfold b_impl_Machine_view
  refine wpc_cut2 (fun f1 h1 => ∃ b1 b3 c3, f1 1 = ptr b1 0 ∧ f1 3 = ptr b3 0 ∧ h1.get b1 = some ⟨[i64 m.blocks, vs, vd], 3⟩ ∧ h1.get b3 = some ⟨c3, 8⟩ ∧ StR h1 c3 s ∧ Ext h h1) ?_ ?_
  · simp -implicitDefEqProofs only [go_sem, o4, o5, c4, c5]
    intro b1 hb_b1 n_b1
    simp -implicitDefEqProofs only [go_sem, o4, o5, c4, c5, hb_b1]
    refine AC_of (stateOf_ac (hv0.ext ((Ext.refl _).set' n_b1 _)) hs) ?_
    rintro _ h2 - ⟨e2, cs2, rfl, F2⟩
    have l2 := F2.r.len
    have t2 := take_len l2
    have o2 := F2.r.one
    have g1 := e2.2.g b1 _ (H.set_get_same _ _ _)
    have E2 := (((Ext.refl _).set' n_b1 _)).trans e2
    skip
    simp -implicitDefEqProofs only [go_sem, l2, t2, o2, o4, o5, c4, c5]
    intro b3 hb3 n3
    have e3 := (Ext.refl h2).set n3 ⟨cs2, 8⟩
    simp -implicitDefEqProofs only [go_sem, l2, t2, o2, hb3, o4, o5, c4, c5]
    rw [hst] at F2
    simp only [Option.getD_some] at F2
    have z13 : b1 ≠ b3 := fun e => by rw [← e, g1] at n3; cases n3
    exact ⟨b1, b3, cs2, rfl, rfl, by rw [if_neg z13]; exact g1, by rw [if_pos rfl], F2.r.ext e3, E2.trans e3⟩
  rintro f1 hS ⟨b1, b3, c3, q1, q3, g1, g3, SR, E1⟩
  have hst0 := SR
  obtain ⟨uh, um, rfl, sh, sm⟩ := SR
  have o6 := sh.vcl
  have o7 := sm.vcl
  have o8 := sh.one
  have o9 := sm.one
  have hvS := hv0.ext E1
  skip
  refine wpc_cut (fun f2 h2 => ∃ v5 v6 hB, f2 1 = ptr b1 0 ∧ f2 3 = ptr b3 0 ∧ f2 5 = v5 ∧ f2 6 = v6 ∧ Own hS hB v5 1 (strs (baseOf m)) ∧ Ext hS hB ∧ Ext hB h2 ∧ Fre hB h2 v6 4 ((logOf m s).map UStep.cells)) ?_ ?_
  · simp -implicitDefEqProofs only [go_sem, q1, q3, ldc_get g1, ldc_get g3, o4, o5, c4, c5, o6, o7, o8, o9]
    refine AC_of (base_ac hvS hf) ?_
    rintro v5 h5 - ⟨e5, ow⟩
    refine ⟨e5.2, ?_⟩
    simp -implicitDefEqProofs only [go_sem, ow.sl.vcl, o4, o5, c4, c5, o6, o7, o8, o9]
    refine AC_of (log_ac (hvS.ext e5) hf (hst0.ext e5) hok) ?_
    rintro v6 h6 - ⟨e6, f6⟩
    refine ⟨(e5.trans e6).2, ?_⟩
    simp -implicitDefEqProofs only [go_sem, f6.sl.vcl, q1, q3, o4, o5, c4, c5, o6, o7, o8, o9]
    exact ⟨v5, v6, h5, rfl, rfl, ow, e5, e6, f6⟩
  rintro f2 h2 ⟨v5, v6, hB, r1, r3, r5, r6, ow, eB, e2, f6⟩
  have ow2 := ow.ext e2
  have E2 := eB.trans e2
  have G1 := E2.2.g b1 _ g1
  have G3 := E2.2.g b3 _ g3
  unfold viewM
  have vc5 := ow2.sl.vcl
  by_cases p4 : s.phase = 4
  · rw [if_pos p4]
    have fo : Fold m s := Fold.of hf hok hi hsd (by omega)
    have hco := (code_zero fo.code).1
    simp -implicitDefEqProofs only [go_sem, r1, r3, r5, r6, ldc_get G3, eq_true p4, o4, o5, c4, c5, o6, o7, o8, o9]
    refine AC_of (imageApply_ac ow2.sl f6.sl hi (by omega) (fun x hx => by rw [hbl.2]; exact hco.2.2 x hx)) ?_
    rintro v7 h7 - ⟨e7, f7⟩
    simp -implicitDefEqProofs only [go_sem, f7.sl.vcl, o4, o5, c4, c5, o6, o7, o8, o9]
    exact ⟨(E1.trans E2).trans e7, f7.back (E1.trans E2)⟩
  rw [if_neg p4]
  by_cases p5 : s.phase = 5
  rotate_left
  · rw [if_neg p5]
    simp -implicitDefEqProofs only [go_sem, r1, r3, r5, r6, ldc_get G3, eq_false p4, eq_false p5, vc5, o4, o5, c4, c5, o6, o7, o8, o9]
    exact ⟨E1.trans E2, (ow2.back E1).fre⟩
  rw [if_pos p5]
  have fo : Fold m s := Fold.of hf hok hi hsd (by omega)
  have hco := (code_zero fo.code).1
  have h28 := moves_28 fo.code
  simp -implicitDefEqProofs only [go_sem, r1, r3, r5, r6, ldc_get G3, eq_false p4, eq_true p5, o4, o5, c4, c5, o6, o7, o8, o9]
  refine AC_of (planOf_ac f6.sl h20 (steps_dst hco)) ?_
  rintro vm h7 - ⟨e7, f7⟩
  simp -implicitDefEqProofs only [go_sem, f7.sl.vcl, o4, o5, c4, c5, o6, o7, o8, o9]
  intro b7 hb7 n7
  have o10 := f7.sl.one
  simp -implicitDefEqProofs only [go_sem, hb7, o10, f7.sl.vcl, o4, o5, c4, c5, o6, o7, o8, o9]
  have e7b := (Ext.refl h7).set n7 ⟨[vm], 1⟩
  have g7 : (h7.set b7 ⟨[vm], 1⟩).get b7 = some ⟨[vm], 1⟩ := H.set_get_same _ _ _
  generalize hH : h7.set b7 ⟨[vm], 1⟩ = h7b at e7b g7 ⊢
  simp -implicitDefEqProofs only [go_sem, r6, o4, o5, c4, c5, o6, o7, o8, o9]
  refine AC_of (writes_ac (f6.sl.ext (e7.trans e7b)) (by omega)) ?_
  rintro vw hL - ⟨e8, f8⟩
  have ll : ((wrM m s).map UStep.cells).length = (wrM m s).length := by simp
  have f8 : Fre h7b hL vw 4 ((wrM m s).map UStep.cells) := f8
  have hsh := f8.shape
  rw [ll] at hsh
  obtain ⟨aw, cw, rfl⟩ := hsh
  have EL := E2.trans (e7.trans (e7b.trans e8))
  have owL := ow2.ext (e7.trans (e7b.trans e8))
  have g7 := e8.2.g b7 _ g7
  have GL1 := EL.2.g b1 _ g1
  have GL3 := EL.2.g b3 _ g3
  have fmL := f7.sl.ext (e7b.trans e8)
  -- what is apart from the image
  have old : ∀ {b}, ob v5 = some b → h2.get b ≠ none := fun hb => by obtain ⟨_, _, z, hg⟩ := ow2.ob_new hb; rw [hg]; simp
  have ap7 : ob v5 ≠ some b7 := fun hb => old hb (e7.none n7)
  have apm : ∀ b, blk vm = some b → ¬ (ob v5 = some b) := fun b hb hv => old hv (f7.new b hb)
  have apw : ∀ b, blk (.slice aw (wrM m s).length cw) = some b → ¬ (ob v5 = some b) := fun b hb hv => old hv ((e7.trans e7b).none (f8.new b hb))
  have ap1 : ob v5 ≠ some b1 := fun hb => by rw [(ow2.ob_new hb).1] at g1; cases g1
  have ap3 : ob v5 ≠ some b3 := fun hb => by rw [(ow2.ob_new hb).1] at g3; cases g3
  simp -implicitDefEqProofs only [go_sem, r1, r3, r5, r6, ll, o4, o5, c4, c5, o6, o7, o8, o9]
  refine loopW_of (fun n f h' => ∃ k, n + k = (wrM m s).length ∧ f 1 = ptr b1 0 ∧ f 3 = ptr b3 0 ∧ f 5 = v5 ∧ f 7 = ptr b7 0 ∧ f 8 = .func (.func 128) #[] #[ptr b7 0, ptr b3 0] ∧ f 34 = .slice aw (wrM m s).length cw ∧ f 35 = i64 (wrM m s).length ∧ f 36 = i64 k ∧ Keep (fun c => ob v5 = some c) hL h' ∧ Own hS h' v5 1 (strs (imgK m s k)) ∧ Ext hS h') (wrM m s).length
    ⟨0, by simp, by simp -implicitDefEqProofs only [go_sem, r1, o4, o5, c4, c5, o6, o7, o8, o9], by simp -implicitDefEqProofs only [go_sem, r3, o4, o5, c4, c5, o6, o7, o8, o9], by simp -implicitDefEqProofs only [go_sem, r5, o4, o5, c4, c5, o6, o7, o8, o9], by simp -implicitDefEqProofs only [go_sem, o4, o5, c4, c5, o6, o7, o8, o9], by simp -implicitDefEqProofs only [go_sem, r3, o4, o5, c4, c5, o6, o7, o8, o9], by simp -implicitDefEqProofs only [go_sem, o4, o5, c4, c5, o6, o7, o8, o9], by simp -implicitDefEqProofs only [go_sem, o4, o5, c4, c5, o6, o7, o8, o9], by simp -implicitDefEqProofs only [go_sem, o4, o5, c4, c5, o6, o7, o8, o9]; rfl, Keep.refl _ _, owL, EL⟩ ?_
  rintro n f h' ⟨k, hn, x1, x3, x5, x7, x8, x34, x35, x36, kp, o', ex⟩
  have hwl : (wrM m s).length ≤ 20 := Nat.le_trans (List.length_filter_le _ _) h20
  have hlen : (strs (imgK m s k)).length = (baseOf m).length := by rw [List.length_map, imgK_len]
  have gg7 := kp.2.1 b7 _ ap7 g7
  have gg1 := ex.2.g b1 _ g1
  have gg3 := ex.2.g b3 _ g3
  have vc := o'.sl.vcl
  by_cases hk : k < (wrM m s).length
  rotate_left
  · have e : k = (wrM m s).length := by omega
    subst e
    have e9 : imgK m s (wrM m s).length = foldV m s := by unfold imgK foldV; rw [List.take_length]
    rw [e9] at o'
    simp -implicitDefEqProofs only [go_sem, x1, x3, x5, x7, x8, x34, x35, x36, Int.ofNat_lt, Nat.lt_irrefl, vc, o4, o5, c4, c5, o6, o7, o8, o9]
    exact ⟨E1.trans ex, (o'.back E1).fre⟩
  have hmx := List.getElem_mem hk
  obtain ⟨hkk, hsr, hds, h8⟩ := fo.x hmx
  obtain ⟨_, _, bd, od, e', hc', q2, q3'⟩ := (f8.keep kp apw).sl
  rw [ll] at e' q2
  simp only [Value.slice.injEq, true_and] at e'
  obtain ⟨rfl, rfl⟩ := e'
  have d1 := q3' k ((wrM m s)[k]).cells (by simp [hk])
  simp -implicitDefEqProofs only [go_sem, x34, x35, x36, Int.ofNat_lt, Int.natCast_nonneg, hk, q2, d1, o4, o5, c4, c5, o6, o7, o8, o9]
  intro b10 hb10 n10
  have e10 := (Ext.refl h').set n10 ⟨((wrM m s)[k]).cells, 4⟩
  have gb7 := e10.2.g b7 _ gg7
  have gb1 := e10.2.g b1 _ gg1
  have gb3 := e10.2.g b3 _ gg3
  have g10 : (h'.set b10 ⟨((wrM m s)[k]).cells, 4⟩).get b10 = some ⟨((wrM m s)[k]).cells, 4⟩ := H.set_get_same _ _ _
  have fmm := (fmL.keep kp apm).ext e10
  have o10' := o'.ext e10
  have ex10 := ex.set n10 ⟨((wrM m s)[k]).cells, 4⟩
  have kp10 := kp.set (b := b10) (.inr (by cases hq : hL.get b10 with | none => rfl | some ob => exact absurd n10 (kp.2.2.2 b10 (by rw [hq]; simp)))) ⟨((wrM m s)[k]).cells, 4⟩
  simp -implicitDefEqProofs only [go_sem, hb10, o4, o5, c4, c5, o6, o7, o8, o9]
  generalize hX : h'.set b10 ⟨((wrM m s)[k]).cells, 4⟩ = hx at e10 gb7 gb1 gb3 g10 fmm o10' ex10 kp10 ⊢
  simp -implicitDefEqProofs only [go_sem, x8, ldc_get g10, o4, o5, c4, c5, o6, o7, o8, o9]
  refine (view1_pc (to := ((wrM m s)[k]).dst) fo fmm gb7 gb3).use ?_
  have hsucc := imgK_succ m s hk
  by_cases hd : doneB m s ((wrM m s)[k]).dst = true
  · rw [if_pos hd] at hsucc
    simp -implicitDefEqProofs only [go_sem, hd, x36, wrap_i64 (show -(9223372036854775808 : Int) ≤ ((k : Int) + 1) by omega) (show ((k : Int) + 1) < 9223372036854775808 by omega), o4, o5, c4, c5, o6, o7, o8, o9]
    refine ⟨n - 1, by omega, _, Ext.refl _, k + 1, by omega, x1, x3, x5, x7, x8, x34, x35, rfl, kp10, by rw [hsucc]; exact o10', ex10⟩
  rw [if_neg hd] at hsucc
  have hd' : doneB m s ((wrM m s)[k]).dst = false := by simpa using hd
  simp -implicitDefEqProofs only [go_sem, hd', x1, x3, x5, x7, ldc_get g10, ldc_get gb1, ldc_get gb3, ldc_get gb7, f7.sl.vcl, o4, o5, c4, c5, o6, o7, o8, o9]
  refine (made_pc (hv0.ext (E1.trans ex10)) (hst0.ext ex10) fo fmm hmx).use ?_
  obtain ⟨d, hd2⟩ : ∃ d : Nat, ((wrM m s)[k]).dst = d := ⟨((wrM m s)[k]).dst.toNat, by omega⟩
  rw [hd2, Int.toNat_natCast] at hsucc
  have hdl : d < (baseOf m).length := by omega
  obtain ⟨bs, cs, z, hus, hbs, nbs, gs, hst, o3⟩ := own_put o10' (k := d) (by rw [hlen]; exact hdl) (r := [str (madeM m s (wrM m s)[k])]) rfl rfl
  have hsy : strs (imgK m s (k + 1)) = (strs (imgK m s k)).set d [str (madeM m s (wrM m s)[k])] := by rw [hsucc, strs, strs, List.map_set]
  rw [hlen] at hus
  have hob : ob v5 = some bs := by rw [hus]; rfl
  simp -implicitDefEqProofs only [go_sem, Sub.refl, x1, x3, x5, x36, hus, hd2, hdl, hlen, Int.natCast_nonneg, Int.ofNat_lt, Int.toNat_natCast, hbs, hst, wrap_i64 (show -(9223372036854775808 : Int) ≤ ((k : Int) + 1) by omega) (show ((k : Int) + 1) < 9223372036854775808 by omega), o4, o5, c4, c5, o6, o7, o8, o9]
  exact ⟨n - 1, by omega, _, Ext.refl _, k + 1, by omega, x7, x8, x34, x35, rfl, by rw [← hus]; exact kp10.set (.inl hob) _, by rw [hsy, ← hus]; exact o3, ex10.set' nbs _⟩
noncomputable def imgS (m : UMach) (s : UState) (k : Nat) : List (List UInt8) := (((movesM m s).take k).drop s.done.toNat).foldl (setIf (fun x : UMove => decide (x.kind = 2)) (fun x => x.block.toNat) (fun x => madeM m s (stAt (wrM m s) x.step.toNat))) (baseOf m)
theorem imgS_len (m : UMach) (s : UState) (k : Nat) : (imgS m s k).length = (baseOf m).length := setIf_len ..
theorem imgS_zero (m : UMach) (s : UState) : imgS m s 0 = baseOf m := by simp [imgS]
theorem imgS_all (m : UMach) (s : UState) : imgS m s (movesM m s).length = specV m s := by unfold imgS specV; rw [List.take_length]
theorem imgS_succ (m : UMach) (s : UState) {k : Nat} (hk : k < (movesM m s).length) : imgS m s (k + 1) = if (movesM m s)[k].kind = 2 ∧ s.done.toNat ≤ k then (imgS m s k).set ((movesM m s)[k]).block.toNat (madeM m s (stAt (wrM m s) ((movesM m s)[k]).step.toNat)) else imgS m s k := by
  unfold imgS
  rw [List.take_succ_eq_append_getElem hk]
  by_cases hd : s.done.toNat ≤ k
  · rw [List.drop_append_of_le_length (by rw [List.length_take]; omega), List.foldl_append, List.foldl_cons, List.foldl_nil]
    generalize (((movesM m s).take k).drop s.done.toNat).foldl _ _ = im
    unfold setIf
    by_cases h2 : (movesM m s)[k].kind = 2 <;> simp [h2, hd]
  · rw [if_neg (fun h => hd h.2), List.drop_of_length_le (by simp; omega), List.drop_of_length_le (by simp; omega)]
/-- spec.l14View -/
def b_spec_l14View : C := (.seq (.ops [⟨(some 2), none, .box (.t 0)⟩, ⟨(some 3), none, .box (.t 1)⟩, q 4 (.mv (.c nils))])
 (.seq (.ops [q 11 (.ld true 3 (.t 2)), ⟨(some 12), none, .call (.c (.func (.func 51) #[] #[])) [(.t 11)]⟩, q 5 (.mv (.t 12))])
 (.seq (.ops [q 13 (.ld true 3 (.t 2)), q 14 (.ld true 8 (.t 3)), ⟨(some 15), none, .call (.c (.func (.func 68) #[] #[])) [(.t 13), (.t 14)]⟩, q 6 (.mv (.t 15))])
 (.seq (.seq (.ops [q 16 (.fld 0 (.t 3)), q 17 (.ld false 1 (.t 16)), q 18 (.bin .eql (.t 17) (.c (i64 4)))])
 (.cond (.t 18) (.seq (.ops [q 19 (.mv (.t 5)), q 20 (.mv (.t 6)), ⟨(some 21), none, .call (.c (.func (.func 124) #[] #[])) [(.t 19), (.t 20)]⟩, q 22 (.part false 0 1 (.t 21)), q 4 (.mv (.t 22))])
 .ret) .skip))
 (.seq (.seq (.ops [q 23 (.fld 0 (.t 3)), q 24 (.ld false 1 (.t 23)), q 25 (.bin .neq (.t 24) (.c (i64 5)))])
 (.cond (.t 25) (.seq (.ops [q 26 (.mv (.t 5)), q 4 (.mv (.t 26))])
 .ret) .skip))
 (.seq (.ops [q 27 (.ld true 3 (.t 2)), q 28 (.ld true 8 (.t 3)), ⟨(some 29), none, .call (.c (.func (.func 42) #[] #[])) [(.t 27), (.t 28)]⟩, q 7 (.mv (.t 29))])
 (.seq (.ops [q 30 (.mv (.t 6)), ⟨(some 31), none, .call (.c (.func (.func 125) #[] #[])) [(.t 30)]⟩, q 8 (.mv (.t 31))])
 (.seq (.ops [⟨(some 32), none, .bsl 0 [] []⟩, q 33 (.mv (.t 5)), ⟨(some 34), none, .app 1 16 (.t 32) (.t 33)⟩, q 9 (.mv (.t 34))])
 (.seq (.seq (.ops [q 10 (.mv (.c (i64 0)))])
 (.block 0 (.loop (.seq (.seq (.ops [q 35 (.mv (.t 10)), q 36 (.mv (.t 7)), q 37 (.len (.t 36)), q 38 (.bin .lss (.t 35) (.t 37))])
 (.cond (.t 38) .skip (.exit 0)))
 (.seq (.block 1 (.seq (.ops [q 41 (.mv (.t 7)), q 42 (.mv (.t 10)), q 43 (.idx 4 (.t 41) (.t 42)), q 44 (.fld 0 (.t 43)), q 45 (.ld false 1 (.t 44)), q 46 (.bin .eql (.t 45) (.c (i64 2))), q 47 (.mv (.t 46)), qg 48 47 true (.mv (.t 10)), qg 49 47 true (.fld 4 (.t 3)), qg 50 47 true (.ld false 1 (.t 49)), qg 51 47 true (.bin .geq (.t 48) (.t 50)), q 52 (.pick (.t 47) (.t 51) (.c (.bool false)))])
 (.cond (.t 52) (.dops true (.tk (q 53 (.mv (.t 9))) (.tk (q 54 (.mv (.t 7))) (.tk (q 55 (.mv (.t 10))) (.tk (q 56 (.idx 4 (.t 54) (.t 55))) (.tk (q 57 (.fld 2 (.t 56))) (.tk (q 58 (.ld false 1 (.t 57))) (.tk (q 59 (.ld true 3 (.t 2))) (.tk (q 60 (.ld true 8 (.t 3))) (.tk (q 61 (.mv (.t 7))) (.tk (q 62 (.mv (.t 8))) (.tk (q 63 (.mv (.t 7))) (.tk (q 64 (.mv (.t 10))) (.tk (q 65 (.idx 4 (.t 63) (.t 64))) (.tk (q 66 (.fld 1 (.t 65))) (.tk (q 67 (.ld false 1 (.t 66))) (.tk (q 68 (.idx 4 (.t 62) (.t 67))) (.tk (q 69 (.ld true 4 (.t 68))) (.sq (⟨(some 70), none, .call (.c (.func (.func 126) #[] #[])) [(.t 59), (.t 60), (.t 61), (.t 69)]⟩) (.tk (q 71 (.idx 1 (.t 53) (.t 58))) (.lt (⟨none, none, .st 1 (.t 71) (.t 70)⟩) .nil))))))))))))))))))))) .skip)))
 (.ops [q 39 (.mv (.t 10)), q 40 (.bin .add (.t 39) (.c (i64 1))), q 10 (.mv (.t 40))]))))))
 (.seq (.ops [q 72 (.mv (.t 9)), q 4 (.mv (.t 72))])
 .ret))))))))))
theorem w_spec_l14View {args : List Value} {h : H} {Q : Value → H → Prop} (hl : args.length ≤ 73) (hk : wpc Tryz.prog b_spec_l14View (retw [.tmp 4] Q) (argsFr args) h) : AC Tryz.prog 65 args h Q :=
  AC.of_wpc mixedOrders Tryz.func65 (by kernel_rfl) (by kernel_rfl : prepF Tryz.prog Tryz.f65 = some ⟨73, [.tmp 4], b_spec_l14View⟩) hl hk

set_option maxHeartbeats 3200000 in
theorem l14View_ac {h : H} {cs c2 : List Value} {m : UMach} {s : UState} (hv : RepR h (spMach m) cs) (hf : machFit m) (hst : StR h c2 s) (hok : stateOk s) (hi : imageOk (baseOf m)) (hsd : soundM m s) : AC Tryz.prog 65 [.agg cs.toArray, .agg c2.toArray] h fun r h' => Ext h h' ∧ Fre h h' r 1 (strs (viewM m s)) := by
  have hv0 := hv
  have hst0 := hst
  have h20 := logOf_len m hok
  have hbl := baseOf_len hf
  obtain ⟨vs, vd, rfl, fr⟩ := mach_r.1 hv
  have o4 := fr.1.one
  have o5 := fr.2.one
  have c4 : vcl vs = [vs] := fr.1.vcl
  have c5 : vcl vd = [vd] := fr.2.vcl
  obtain ⟨uh, um, rfl, sh, sm⟩ := hst
  have o6 := sh.vcl
  have o7 := sm.vcl
  have o8 := sh.one
  have o9 := sm.one
  skip
  refine w_spec_l14View (by simp) ?_
  unfold b_spec_l14View
  refine wpc_cut3 (fun f2 h2 => ∃ b2 b3 v5 v6 hS hB, f2 2 = ptr b2 0 ∧ f2 3 = ptr b3 0 ∧ f2 5 = v5 ∧ f2 6 = v6 ∧ hS.get b2 = some ⟨[i64 m.blocks, vs, vd], 3⟩ ∧ hS.get b3 = some ⟨s.cells uh um, 8⟩ ∧ Ext h hS ∧ Own hS hB v5 1 (strs (baseOf m)) ∧ Ext hS hB ∧ Ext hB h2 ∧ Fre hB h2 v6 4 ((logOf m s).map UStep.cells)) ?_ ?_
  · simp -implicitDefEqProofs only [go_sem, o4, o5, c4, c5, o6, o7, o8, o9]
    intro b2 hb_b2 n_b2
    simp -implicitDefEqProofs only [go_sem, o4, o5, c4, c5, o6, o7, o8, o9, hb_b2]
    intro b3 hb_b3 m0_b3
    obtain ⟨z_b3_b2, y_b3_b2, n_b3⟩ := fne m0_b3
    simp only [H.set_base] at hb_b3
    have E0 : Ext h ((h.set b2 ⟨[i64 m.blocks, vs, vd], 3⟩).set b3 ⟨s.cells uh um, 8⟩) := (((Ext.refl _).set' n_b2 _).set' n_b3 _)
    have g2 : ((h.set b2 ⟨[i64 m.blocks, vs, vd], 3⟩).set b3 ⟨s.cells uh um, 8⟩).get b2 = some ⟨[i64 m.blocks, vs, vd], 3⟩ := by simp -implicitDefEqProofs only [go_sem, o4, o5, c4, c5, o6, o7, o8, o9, hb_b2, hb_b3, z_b3_b2, y_b3_b2]
    have g3 : ((h.set b2 ⟨[i64 m.blocks, vs, vd], 3⟩).set b3 ⟨s.cells uh um, 8⟩).get b3 = some ⟨s.cells uh um, 8⟩ := by simp -implicitDefEqProofs only [go_sem, o4, o5, c4, c5, o6, o7, o8, o9, hb_b2, hb_b3, z_b3_b2, y_b3_b2]
    simp -implicitDefEqProofs only [go_sem, o4, o5, c4, c5, o6, o7, o8, o9, hb_b2, hb_b3, z_b3_b2, y_b3_b2]
    generalize hH : (h.set b2 ⟨[i64 m.blocks, vs, vd], 3⟩).set b3 ⟨s.cells uh um, 8⟩ = hS at E0 g2 g3 ⊢
    skip
    refine AC_of (l13Base_ac (hv0.ext E0) hf) ?_
    rintro v5 h5 - ⟨e5, ow⟩
    have G2 := e5.2.g b2 _ g2
    have G3 := e5.2.g b3 _ g3
    simp -implicitDefEqProofs only [go_sem, ow.sl.vcl, ldc_get G2, ldc_get G3, o4, o5, c4, c5, o6, o7, o8, o9]
    refine AC_of (l13Log_ac (hv0.ext (E0.trans e5)) hf (hst0.ext (E0.trans e5)) hok) ?_
    rintro v6 h6 - ⟨e6, f6⟩
    simp -implicitDefEqProofs only [go_sem, f6.sl.vcl, o4, o5, c4, c5, o6, o7, o8, o9]
    exact ⟨b2, b3, v5, v6, hS, h5, by trivial⟩
  rintro f2 h2 ⟨b2, b3, v5, v6, hS, hB, r1, r3, r5, r6, g1, g3, E1, ow, eB, e2, f6⟩
  have ow2 := ow.ext e2
  have E2 := eB.trans e2
  have G1 := E2.2.g b2 _ g1
  have G3 := E2.2.g b3 _ g3
  unfold viewM
  have vc5 := ow2.sl.vcl
  by_cases p4 : s.phase = 4
  · rw [if_pos p4]
    have fo : Fold m s := Fold.of hf hok hi hsd (by omega)
    have him : imgOut (baseOf m) (logOf m s) = (applyB (baseOf m) (logOf m s), 0) := by
      unfold imgOut
      rw [if_neg (by omega), if_pos hi, if_pos (by rw [hbl.2]; exact fo.code)]
    simp -implicitDefEqProofs only [go_sem, r1, r3, r5, r6, ldc_get G3, eq_true p4, o4, o5, c4, c5, o6, o7, o8, o9]
    refine AC_of (specSnapAll_ac ow2.sl f6.sl (by omega) (by omega)) ?_
    rintro _ h7 - ⟨e7, cs7, rfl, F7⟩
    obtain ⟨v7, rfl, f7⟩ := img_f.1 F7
    rw [him] at f7
    simp -implicitDefEqProofs only [go_sem, f7.sl.vcl, o4, o5, c4, c5, o6, o7, o8, o9]
    exact ⟨(E1.trans E2).trans e7, f7.back (E1.trans E2)⟩
  rw [if_neg p4]
  by_cases p5 : s.phase = 5
  rotate_left
  · rw [if_neg p5]
    simp -implicitDefEqProofs only [go_sem, r1, r3, r5, r6, ldc_get G3, eq_false p4, eq_false p5, vc5, o4, o5, c4, c5, o6, o7, o8, o9]
    exact ⟨E1.trans E2, (ow2.back E1).fre⟩
  rw [if_pos p5]
  have fo : Fold m s := Fold.of hf hok hi hsd (by omega)
  have h28 := moves_28 fo.code
  have hmo : movesOf m s = movesM m s := by unfold movesOf; rw [if_pos fo.code]
  simp -implicitDefEqProofs only [go_sem, r1, r3, r5, r6, ldc_get G1, ldc_get G3, eq_false p4, eq_true p5, o4, o5, c4, c5, o6, o7, o8, o9]
  refine AC_of (l14Moves_ac (hv0.ext (E1.trans E2)) hf (hst0.ext (E1.trans E2)) hok) ?_
  rintro vm h7 - ⟨e7, o7'⟩
  rw [hmo] at o7'
  simp -implicitDefEqProofs only [go_sem, o7'.sl.vcl, r6, o4, o5, c4, c5, o6, o7, o8, o9]
  refine AC_of (specWrites_ac (f6.sl.ext e7) h20) ?_
  rintro vw h8 - ⟨e8, f8⟩
  have f8 : Fre h7 h8 vw 4 ((wrM m s).map UStep.cells) := f8
  simp -implicitDefEqProofs only [go_sem, f8.sl.vcl, r5, o4, o5, c4, c5, o6, o7, o8, o9]
  intro b9 hb9 n9
  have e9 := (Ext.refl h8).set n9 ⟨[], 0⟩
  simp -implicitDefEqProofs only [go_sem, (ow2.ext ((e7.trans e8).trans e9)).sl.src (strs_wid _) (by decide), r5, o4, o5, c4, c5, o6, o7, o8, o9]
  refine app0 hb9 n9 rfl (strs_wid _) (strs_one _) (by rw [List.length_map]; omega) ?_
  intro v9 hL eL o9'
  have ll : ((wrM m s).map UStep.cells).length = (wrM m s).length := by simp
  have lm : ((movesM m s).map UMove.cells).length = (movesM m s).length := by simp
  have hsh := f8.shape
  rw [ll] at hsh
  obtain ⟨aw, cw, rfl⟩ := hsh
  have hsm := o7'.shape
  rw [lm] at hsm
  obtain ⟨am, cm, rfl⟩ := hsm
  have EL := E2.trans (e7.trans (e8.trans eL))
  have GL1 := EL.2.g b2 _ g1
  have GL3 := EL.2.g b3 _ g3
  have fmL := o7'.sl.ext (e8.trans eL)
  have fwL := f8.ext eL
  have apm : ∀ b, blk (.slice am (movesM m s).length cm) = some b → ¬ (ob v9 = some b) := fun b hb hv => by
    have h1 := (o7'.sl.ext e8).known b hb
    exact h1 (o9'.ob_new hv).1
  have apw : ∀ b, blk (.slice aw (wrM m s).length cw) = some b → ¬ (ob v9 = some b) := fun b hb hv => f8.known b hb (o9'.ob_new hv).1
  have oS : Own hS hL v9 1 (strs (baseOf m)) := o9'.back (E2.trans (e7.trans e8))
  have hshp := plan_shape (wrM m s)
  have hdn := ok_done hok
  have hwl : (wrM m s).length ≤ 20 := Nat.le_trans (List.length_filter_le _ _) h20
  simp -implicitDefEqProofs only [go_sem, r1, r3, lm, o4, o5, c4, c5, o6, o7, o8, o9]
  refine loopW_of (fun n f h' => ∃ k, n + k = (movesM m s).length ∧ f 2 = ptr b2 0 ∧ f 3 = ptr b3 0 ∧ f 7 = .slice am (movesM m s).length cm ∧ f 8 = .slice aw (wrM m s).length cw ∧ f 9 = v9 ∧ f 10 = i64 k ∧ Keep (fun c => ob v9 = some c) hL h' ∧ Own hS h' v9 1 (strs (imgS m s k)) ∧ Ext hS h') (movesM m s).length
    ⟨0, by simp, by simp -implicitDefEqProofs only [go_sem, r1, o4, o5, c4, c5, o6, o7, o8, o9], by simp -implicitDefEqProofs only [go_sem, r3, o4, o5, c4, c5, o6, o7, o8, o9], by simp -implicitDefEqProofs only [go_sem, lm, o4, o5, c4, c5, o6, o7, o8, o9], by simp -implicitDefEqProofs only [go_sem, ll, o4, o5, c4, c5, o6, o7, o8, o9], by simp -implicitDefEqProofs only [go_sem, o4, o5, c4, c5, o6, o7, o8, o9], by simp -implicitDefEqProofs only [go_sem, o4, o5, c4, c5, o6, o7, o8, o9]; rfl, Keep.refl _ _, by rw [imgS_zero]; exact oS, EL⟩ ?_
  rintro n f h' ⟨k, hn, x2, x3, x7, x8, x9, x10, kp, o', ex⟩
  have hlen : (strs (imgS m s k)).length = (baseOf m).length := by rw [List.length_map, imgS_len]
  have gg2 := ex.2.g b2 _ g1
  have gg3 := ex.2.g b3 _ g3
  have vc := o'.sl.vcl
  by_cases hk : k < (movesM m s).length
  rotate_left
  · have e : k = (movesM m s).length := by omega
    subst e
    rw [imgS_all, ← foldV_eq fo] at o'
    simp -implicitDefEqProofs only [go_sem, x2, x3, x7, x8, x9, x10, Int.ofNat_lt, Nat.lt_irrefl, vc, o4, o5, c4, c5, o6, o7, o8, o9]
    exact ⟨E1.trans ex, (o'.back E1).fre⟩
  have fmk := fmL.keep kp apm
  obtain ⟨_, _, bd, od, e', hc', q2, q3'⟩ := fmk
  rw [lm] at e' q2
  simp only [Value.slice.injEq, true_and] at e'
  obtain ⟨rfl, rfl⟩ := e'
  have d1 := q3' k ((movesM m s)[k]).cells (by simp [hk])
  have d10 := ldc_part d1 0 1 (by omega)
  have d11 := ldc_part d1 1 1 (by omega)
  have d12 := ldc_part d1 2 1 (by omega)
  simp only [List.drop_zero, List.drop_succ_cons, List.take_succ_cons, List.take_zero, Nat.add_zero] at d10 d11 d12
  have hsucc := imgS_succ m s hk
  obtain ⟨i, hiw, hstep, hblk, _⟩ := hshp _ (List.getElem_mem hk)
  by_cases hc : (movesM m s)[k].kind = 2 ∧ s.done.toNat ≤ k
  rotate_left
  · rw [if_neg hc] at hsucc
    by_cases h2 : (movesM m s)[k].kind = 2
    · have h3 : ¬ ((k : Int) ≥ s.done) := fun h => hc ⟨h2, by omega⟩
      simp -implicitDefEqProofs only [go_sem, x2, x3, x7, x8, x9, x10, Int.ofNat_lt, Int.natCast_nonneg, hk, q2, d10, eq_true h2, ldc_get gg3, h3, wrap_i64 (show -(9223372036854775808 : Int) ≤ ((k : Int) + 1) by omega) (show ((k : Int) + 1) < 9223372036854775808 by omega), o4, o5, c4, c5, o6, o7, o8, o9]
      exact ⟨n - 1, by omega, _, Ext.refl _, k + 1, by omega, rfl, kp, by rw [hsucc]; exact o', ex⟩
    · simp -implicitDefEqProofs only [go_sem, x2, x3, x7, x8, x9, x10, Int.ofNat_lt, Int.natCast_nonneg, hk, q2, d10, eq_false h2, wrap_i64 (show -(9223372036854775808 : Int) ≤ ((k : Int) + 1) by omega) (show ((k : Int) + 1) < 9223372036854775808 by omega), o4, o5, c4, c5, o6, o7, o8, o9]
      exact ⟨n - 1, by omega, _, Ext.refl _, k + 1, by omega, rfl, kp, by rw [hsucc]; exact o', ex⟩
  rw [if_pos hc] at hsucc
  have h3 : (k : Int) ≥ s.done := by omega
  have hmx : stAt (wrM m s) i ∈ wrM m s := by rw [stAt_get hiw]; exact List.getElem_mem hiw
  obtain ⟨hkk, hsr, hds, h8⟩ := fo.x hmx
  obtain ⟨_, _, bw, ow', e', hcw, t2, t3⟩ := (fwL.keep kp apw).sl
  rw [ll] at e' t2
  simp only [Value.slice.injEq, true_and] at e'
  obtain ⟨rfl, rfl⟩ := e'
  have d2 := t3 i (stAt (wrM m s) i).cells (by rw [stAt_get hiw]; simp [hiw])
  obtain ⟨d, hd2⟩ : ∃ d : Nat, ((movesM m s)[k]).block = d := ⟨((movesM m s)[k]).block.toNat, by omega⟩
  rw [hstep] at d11 hsucc
  rw [hd2] at d12 hsucc
  rw [Int.toNat_natCast, Int.toNat_natCast] at hsucc
  have hdl : d < (baseOf m).length := by omega
  obtain ⟨bs, cs, z, hus, hbs, nbs, gs, hst, o3⟩ := own_put o' (k := d) (by rw [hlen]; exact hdl) (r := [str (madeM m s (stAt (wrM m s) i))]) rfl rfl
  have hsy : strs (imgS m s (k + 1)) = (strs (imgS m s k)).set d [str (madeM m s (stAt (wrM m s) i))] := by rw [hsucc, strs, strs, List.map_set]
  rw [hlen] at hus
  have hob : ob v9 = some bs := by rw [hus]; rfl
  simp -implicitDefEqProofs only [go_sem, x2, x3, x7, x8, x9, x10, Int.ofNat_lt, Int.natCast_nonneg, Int.toNat_natCast, hk, hiw, q2, t2, d10, d11, d12, d2, eq_true hc.1, h3, ldc_get gg2, ldc_get gg3, o4, o5, c4, c5, o6, o7, o8, o9]
  refine (l14Made_pc (hv0.ext (E1.trans ex)) (hst0.ext (E1.trans ex)) fo (fmL.keep kp apm) hmx).use ?_
  simp -implicitDefEqProofs only [go_sem, Sub.refl, x2, x3, x7, x8, x9, x10, hus, hdl, hlen, Int.natCast_nonneg, Int.ofNat_lt, Int.toNat_natCast, hbs, hst, wrap_i64 (show -(9223372036854775808 : Int) ≤ ((k : Int) + 1) by omega) (show ((k : Int) + 1) < 9223372036854775808 by omega), o4, o5, c4, c5, o6, o7, o8, o9]
  exact ⟨n - 1, by omega, _, Ext.refl _, k + 1, by omega, rfl, by rw [← hus]; exact kp.set (.inl hob) _, by rw [hsy, ← hus]; exact o3, ex.set' nbs _⟩
end Go.Proofs.YtiokibikhanfcaaGreat
