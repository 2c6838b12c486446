/- A helper of this seat's claims (contracts of the functions): what it shows is shown for every input that its statements name, on no other condition. -/
import Derived.Test.YtpponffjeilhmaaC11y
import Derived.Test.YtpponffjeilhmaaC11u
import Derived.Test.YtpponffjeilhmaaCE
set_option linter.unusedVariables false
set_option linter.unusedSimpArgs false
set_option maxRecDepth 100000
namespace Go.Proofs.Ytpponffjeilhmaa
open Go.KH

/-! ## A plan run -/
theorem strs_get {im : List (List UInt8)} {b : Int} {n : Nat} (hb : 0 ≤ b) (hl : b < n) (h : im.length = n) : (strs im)[b.toNat]? = some [str (at8 im b)] := by
  have h2 : b.toNat < im.length := by omega
  unfold strs at8
  rw [List.getElem?_map, List.getElem?_eq_getElem h2]; rfl
theorem strs_setm (im : List (List UInt8)) (k : Nat) (x : List UInt8) : (strs im).set k [str x] = strs (im.set k x) := by
  unfold strs; rw [List.map_set]
/-- spec.l11Run -/
def b_spec_l11Run : C := (.seq (.ops [q 6 (.mv (.c nils))])
 (.seq (.ops [⟨(some 15), none, .bsl 0 [] []⟩, q 16 (.mv (.t 0)), ⟨(some 17), none, .app 1 16 (.t 15) (.t 16)⟩, q 7 (.mv (.t 17))])
 (.seq (.ops [⟨(some 18), none, .mks 1 16 [(str [])] (.c (i64 8)) (.c (i64 8))⟩, q 8 (.mv (.t 18))])
 (.seq (.ops [q 19 (.mv (.t 1)), ⟨(some 20), none, .call (.c (.func (.func 64) #[] #[])) [(.t 19)]⟩, q 9 (.mv (.t 20))])
 (.seq (.seq (.ops [q 10 (.mv (.c (i64 0)))])
 (.block 0 (.loop (.seq (.seq (.ops [q 21 (.mv (.t 10)), q 22 (.mv (.t 2)), q 23 (.len (.t 22)), q 24 (.bin .lss (.t 21) (.t 23))])
 (.cond (.t 24) .skip (.exit 0)))
 (.seq (.block 1 (.seq (.ops [q 27 (.mv (.t 2)), q 28 (.mv (.t 10)), q 29 (.idx 4 (.t 27) (.t 28)), q 30 (.ld true 4 (.t 29)), ⟨(some 11), none, .alloc [(i64 0), (i64 0), (i64 0), (i64 0)]⟩, ⟨none, none, .st 4 (.t 11) (.t 30)⟩])
 (.seq (.seq (.ops [q 31 (.fld 0 (.t 11)), q 32 (.ld false 1 (.t 31)), q 33 (.bin .eql (.t 32) (.c (i64 1)))])
 (.cond (.t 33) (.seq (.dops true (.tk (q 34 (.mv (.t 8))) (.tk (q 35 (.fld 3 (.t 11))) (.tk (q 36 (.ld false 1 (.t 35))) (.tk (q 37 (.mv (.t 7))) (.tk (q 38 (.fld 2 (.t 11))) (.tk (q 39 (.ld false 1 (.t 38))) (.tk (q 40 (.idx 1 (.t 37) (.t 39))) (.tk (q 41 (.ld false 1 (.t 40))) (.tk (q 42 (.idx 1 (.t 34) (.t 36))) (.lt (⟨none, none, .st 1 (.t 42) (.t 41)⟩) .nil)))))))))))
 (.exit 1)) .skip))
 (.seq (.ops [q 43 (.mv (.t 9)), q 44 (.fld 1 (.t 11)), q 45 (.ld false 1 (.t 44)), q 46 (.idx 4 (.t 43) (.t 45)), q 47 (.ld true 4 (.t 46)), ⟨(some 12), none, .alloc [(i64 0), (i64 0), (i64 0), (str [])]⟩, ⟨none, none, .st 4 (.t 12) (.t 47)⟩])
 (.seq (.ops [q 48 (.mv (.t 7)), q 49 (.fld 2 (.t 12)), q 50 (.ld false 1 (.t 49)), q 51 (.idx 1 (.t 48) (.t 50)), q 52 (.ld false 1 (.t 51)), q 13 (.mv (.t 52))])
 (.seq (.seq (.ops [q 53 (.mv (.t 2)), q 54 (.mv (.t 10)), q 55 (.fld 2 (.t 12)), q 56 (.ld false 1 (.t 55)), ⟨(some 57), none, .call (.c (.func (.func 168) #[] #[])) [(.t 53), (.t 54), (.t 56)]⟩, q 14 (.mv (.t 57))])
 (.seq (.ops [q 58 (.mv (.t 14)), q 59 (.bin .geq (.t 58) (.c (i64 0)))])
 (.cond (.t 59) (.ops [q 60 (.mv (.t 8)), q 61 (.mv (.t 14)), q 62 (.idx 1 (.t 60) (.t 61)), q 63 (.ld false 1 (.t 62)), q 13 (.mv (.t 63))]) .skip)))
 (.dops true (.tk (q 64 (.mv (.t 7))) (.tk (q 65 (.fld 2 (.t 11))) (.tk (q 66 (.ld false 1 (.t 65))) (.tk (q 67 (.ld true 4 (.t 12))) (.tk (q 68 (.mv (.t 13))) (.sq (⟨(some 69), none, .call (.c (.func (.func 217) #[] #[])) [(.t 67), (.t 68)]⟩) (.tk (q 70 (.idx 1 (.t 64) (.t 66))) (.lt (⟨none, none, .st 1 (.t 70) (.t 69)⟩) .nil)))))))))))))))
 (.ops [q 25 (.mv (.t 10)), q 26 (.bin .add (.t 25) (.c (i64 1))), q 10 (.mv (.t 26))]))))))
 (.seq (.ops [q 71 (.mv (.t 7)), q 6 (.mv (.t 71))])
 .ret))))))
theorem w_spec_l11Run {args : List Value} {h : H} {Q : Value → H → Prop} (hl : args.length ≤ 72) (hk : wpc Try.prog b_spec_l11Run (retw [.tmp 6] Q) (argsFr args) h) : AC Try.prog 138 args h Q :=
  AC.of_wpc mixedOrders Try.func138 (by kernel_rfl) (by kernel_rfl : prepF Try.prog Try.f138 = some ⟨72, [.tmp 6], b_spec_l11Run⟩) hl hk

set_option maxHeartbeats 3200000 in
theorem l11Run_ac {h : H} {v u y : Value} {im : List (List UInt8)} {l : List UStep} (hv : Sl h v 1 (strs im)) (hu : Sl h u 4 (l.map UStep.cells)) (hy : Sl h y 4 ((planB (l.filter isW)).map UMove.cells)) (hi : imageOk im) (hc : codeOf l im.length = 0) :
    AC Try.prog 138 [v, u, y] h fun r h' => Ext h h' ∧ Fre h h' r 1 (strs (applyB im l)) := by
  obtain ⟨⟨hn, hs1, hs⟩, ht, -⟩ := code_zero hc
  obtain ⟨V, VS⟩ := runs_of hi ht hs
  have hrun := run_plan V
  have hmo := fun j (hj : j < (planB (l.filter isW)).length) => mv_ok V VS hj
  have hplen := planB_len (w := l.filter isW) (fun s hs => ⟨(V.dst s hs).1, (V.dst s hs).2.2⟩)
  have hi1 := hi.1
  obtain ⟨av, cv, rfl⟩ := hv.shape
  obtain ⟨au, cu, rfl⟩ := hu.shape
  obtain ⟨ay, cy, rfl⟩ := hy.shape
  have hl : (strs im).length = im.length := by simp
  have hll : (l.map UStep.cells).length = l.length := by simp
  have hly : ((planB (l.filter isW)).map UMove.cells).length = (planB (l.filter isW)).length := by simp
  rw [hl] at hv
  rw [hll] at hu
  rw [hly] at hy
  show AC _ _ _ _ fun r h' => Ext h h' ∧ Fre h h' r 1 (strs ((l.filter isW).foldl (putB im) im))
  rw [← hrun]
  clear hrun
  have hwn : (l.filter isW).length ≤ 20 := by have := List.length_filter_le isW l; omega
  obtain ⟨w, hw⟩ : ∃ w, l.filter isW = w := ⟨_, rfl⟩
  rw [hw] at hmo hplen hwn V VS hy hly ⊢
  obtain ⟨P, hP⟩ : ∃ P, planB w = P := ⟨_, rfl⟩
  rw [hP] at hmo hplen hy hly ⊢
  skip
  refine w_spec_l11Run (by simp) ?_
  unfold b_spec_l11Run
  simp -implicitDefEqProofs only [go_sem, ↓reduceIte, reduceCtorEq, Int.reduceEq, Int.reduceLT, Int.reduceLE, Nat.reduceEqDiff, Nat.reduceAdd, Nat.reduceMul, Nat.reduceLeDiff, Nat.reduceSub, Int.reduceNeg, hl, hll, hly]
  intro b1 hb1 hn1
  have hsrc := src0 hn1 hv (strs_wid im) (by decide)
  rw [hl] at hsrc
  simp -implicitDefEqProofs only [go_sem, ↓reduceIte, reduceCtorEq, Int.reduceEq, Int.reduceLT, Int.reduceLE, Nat.reduceEqDiff, Nat.reduceAdd, Nat.reduceMul, Nat.reduceLeDiff, Nat.reduceSub, Int.reduceNeg, hsrc, hl, hll, hly]
  refine app0 hb1 hn1 (by rw [hl]) (strs_wid im) (strs_one im) (by rw [hl]; omega) ?_
  intro vo h1 e1 o1
  have f1 := o1.fre
  obtain ⟨ao, co, rfl⟩ := f1.shape
  rw [hl] at f1
  simp -implicitDefEqProofs only [go_sem, ↓reduceIte, reduceCtorEq, Int.reduceEq, Int.reduceLT, Int.reduceLE, Nat.reduceEqDiff, Nat.reduceAdd, Nat.reduceMul, Nat.reduceLeDiff, Nat.reduceSub, Int.reduceNeg, hl, hll, hly]
  refine Req.of (by decide) ?_
  simp -implicitDefEqProofs only [go_sem, ↓reduceIte, reduceCtorEq, Int.reduceEq, Int.reduceLT, Int.reduceLE, Nat.reduceEqDiff, Nat.reduceAdd, Nat.reduceMul, Nat.reduceLeDiff, Nat.reduceSub, Int.reduceNeg, Int.reduceToNat, hl, hll, hly]
  intro b2 hb2 hn2
  have z18 : ao = none ∨ ∃ a, ao = some a := by cases ao <;> simp
  obtain ⟨bo, hbo⟩ : ∃ bo, blk (.slice ao im.length co) = some bo := by
    rcases f1 with ⟨a, c, e, -⟩ | ⟨b, c, ob, e, -⟩
    · simp only [Value.slice.injEq] at e; omega
    · simp only [hl, sl, Value.slice.injEq, true_and] at e
      obtain ⟨rfl, rfl⟩ := e
      exact ⟨b, by obtain ⟨n, hn⟩ : ∃ n, im.length = n + 1 := ⟨im.length - 1, by omega⟩
                   rw [hn]; rfl⟩
  have zo2 : bo ≠ b2 := fun e => by subst e; exact f1.known _ hbo hn2
  have e2 := (Ext.refl h1).set hn2 ⟨(List.replicate 8 [str []]).flatten, 8⟩
  have f2 := f1.ext e2
  have g2 : Fre h (h1.set b2 ⟨(List.replicate 8 [str []]).flatten, 8⟩) (sl b2 0 8 8) 1 (strs (List.replicate 8 [])) := .inr ⟨b2, 8, _, rfl, by simp, by rw [H.set_base]; exact hb2, e1.none hn2, H.set_get_same _ _ _, List.prefix_refl (List.replicate 8 [str []]).flatten, strs_wid _⟩
  have E2 := e1.trans e2
  simp -implicitDefEqProofs only [go_sem, ↓reduceIte, reduceCtorEq, Int.reduceEq, Int.reduceLT, Int.reduceLE, Nat.reduceEqDiff, Nat.reduceAdd, Nat.reduceMul, Nat.reduceLeDiff, Nat.reduceSub, Int.reduceNeg, hl, hll, hly]
  refine AC_of (specWrites_ac (hu.ext E2) hn) ?_
  rintro vw h3 - ⟨e3, f3⟩
  rw [hw] at f3
  obtain ⟨aw, cw, rfl⟩ := f3.shape
  have hlw : (w.map UStep.cells).length = w.length := by simp
  rw [hlw] at f3
  have kw : ∀ c, blk (.slice aw w.length cw) = some c → c ≠ bo ∧ c ≠ b2 := fun c hc => by
    have := f3.new c hc
    refine ⟨fun e => ?_, fun e => ?_⟩
    · subst e; exact f2.known _ hbo this
    · subst e; rw [H.set_get_same] at this; cases this
  skip
  simp -implicitDefEqProofs only [go_sem, ↓reduceIte, reduceCtorEq, Int.reduceEq, Int.reduceLT, Int.reduceLE, Nat.reduceEqDiff, Nat.reduceAdd, Nat.reduceMul, Nat.reduceLeDiff, Nat.reduceSub, Int.reduceNeg, hl, hll, hly, hlw]
  refine loopW_of (fun m f h' => ∃ (k : Nat), m + k = P.length ∧ Ext h h' ∧ Fre h h' (.slice ao im.length co) 1 (strs (runL w im (P.take k)).out) ∧ Fre h h' (sl b2 0 8 8) 1 (strs (runL w im (P.take k)).sl) ∧ Sl h' (.slice aw w.length cw) 4 (w.map UStep.cells) ∧
      f 2 = .slice ay P.length cy ∧ f 7 = .slice ao im.length co ∧ f 8 = sl b2 0 8 8 ∧ f 9 = .slice aw w.length cw ∧ f 10 = i64 k) P.length
    ⟨0, by simp, E2.trans e3, f2.ext e3, g2.ext e3, f3.sl, by simp -implicitDefEqProofs only [go_sem, ↓reduceIte, reduceCtorEq, Int.reduceEq, Int.reduceLT, Int.reduceLE, Nat.reduceEqDiff, Nat.reduceAdd, Nat.reduceMul, Nat.reduceLeDiff, Nat.reduceSub, Int.reduceNeg, hl, hll, hly, hlw], by simp -implicitDefEqProofs only [go_sem, ↓reduceIte, reduceCtorEq, Int.reduceEq, Int.reduceLT, Int.reduceLE, Nat.reduceEqDiff, Nat.reduceAdd, Nat.reduceMul, Nat.reduceLeDiff, Nat.reduceSub, Int.reduceNeg, hl, hll, hly, hlw], by simp -implicitDefEqProofs only [go_sem, ↓reduceIte, reduceCtorEq, Int.reduceEq, Int.reduceLT, Int.reduceLE, Nat.reduceEqDiff, Nat.reduceAdd, Nat.reduceMul, Nat.reduceLeDiff, Nat.reduceSub, Int.reduceNeg, hl, hll, hly, hlw], by simp -implicitDefEqProofs only [go_sem, ↓reduceIte, reduceCtorEq, Int.reduceEq, Int.reduceLT, Int.reduceLE, Nat.reduceEqDiff, Nat.reduceAdd, Nat.reduceMul, Nat.reduceLeDiff, Nat.reduceSub, Int.reduceNeg, hl, hll, hly, hlw], by simp -implicitDefEqProofs only [go_sem, ↓reduceIte, reduceCtorEq, Int.reduceEq, Int.reduceLT, Int.reduceLE, Nat.reduceEqDiff, Nat.reduceAdd, Nat.reduceMul, Nat.reduceLeDiff, Nat.reduceSub, Int.reduceNeg, hl, hll, hly, hlw]; rfl⟩ ?_
  clear f1 f2 g2 f3 e1 e2 E2 e3 hsrc o1
  rintro m f h' ⟨k, hm, he, Fo, Fs, Sw, q2, q7, q8, q9, q10⟩
  by_cases hk : k < P.length
  rotate_left
  · have : k = P.length := by omega
    subst this
    simp -implicitDefEqProofs only [go_sem, ↓reduceIte, reduceCtorEq, Int.reduceEq, Int.reduceLT, Int.reduceLE, Nat.reduceEqDiff, Nat.reduceAdd, Nat.reduceMul, Nat.reduceLeDiff, Nat.reduceSub, Int.reduceNeg, q2, q7, q10, Nat.lt_irrefl, Int.ofNat_lt, hl, hll, hly, hlw]
    rw [List.take_length] at Fo
    exact ⟨he, Fo⟩
  obtain ⟨hmk, hstep⟩ := hmo k hk
  obtain ⟨lo, ls⟩ := runL_lens w im (P.take k)
  obtain ⟨r, hr⟩ : ∃ r, runL w im (P.take k) = r := ⟨_, rfl⟩
  have hpre : r.pre = P.take k := by rw [← hr, runL_pre]
  rw [hr] at hmk hstep Fo Fs lo ls
  obtain ⟨mv, hmv⟩ : ∃ mv, P[k] = mv := ⟨_, rfl⟩
  rw [hmv] at hmk hstep
  have sy := hy.ext he
  obtain ⟨_, _, by', oy, ey, _, ry, ly⟩ := sy
  simp only [hly, Value.slice.injEq, true_and] at ey ry
  obtain ⟨rfl, rfl⟩ := ey
  have dm := ly k mv.cells (by simp [hk, hmv])
  have hb' := he.1
  simp -implicitDefEqProofs only [go_sem, ↓reduceIte, reduceCtorEq, Int.reduceEq, Int.reduceLT, Int.reduceLE, Nat.reduceEqDiff, Nat.reduceAdd, Nat.reduceMul, Nat.reduceLeDiff, Nat.reduceSub, Int.reduceNeg, q2, q10, Int.ofNat_lt, Int.natCast_nonneg, hk, ry, dm, hl, hll, hly, hlw]
  intro b11 hb11 n11
  have e11 := (Ext.refl h').set n11 ⟨mv.cells, 4⟩
  have Fo1 := Fo.ext e11
  have Fs1 := Fs.ext e11
  have Sw1 := Sw.ext e11
  have G11 : (h'.set b11 ⟨mv.cells, 4⟩).get b11 = some ⟨mv.cells, 4⟩ := H.set_get_same _ _ _
  have he1 := he.trans e11
  have hy1 := hy.ext he1
  simp -implicitDefEqProofs only [go_sem, ↓reduceIte, reduceCtorEq, Int.reduceEq, Int.reduceLT, Int.reduceLE, Nat.reduceEqDiff, Nat.reduceAdd, Nat.reduceMul, Nat.reduceLeDiff, Nat.reduceSub, Int.reduceNeg, hb11, hl, hll, hly, hlw]
  generalize hH1 : h'.set b11 ⟨mv.cells, 4⟩ = h4 at e11 Fo1 Fs1 Sw1 G11 he1 hy1
  rcases hmk with ⟨mk, ⟨s0, s7⟩, b0, bn⟩ | ⟨mk, i, hiw, hst, ⟨b0, bn⟩, ⟨c0, cn⟩, ⟨r0, r7⟩, hmok⟩
  · have so := Fo1.sl
    obtain ⟨_, _, bb, ob, eo, _, ro, lo'⟩ := so
    simp only [List.length_map, strs, lo, Value.slice.injEq, true_and] at eo ro
    obtain ⟨rfl, rfl⟩ := eo
    have dob := lo' mv.block.toNat _ (strs_get b0 bn lo)
    obtain ⟨b', c', ob', z1, z2, z3, z4, z5, z6⟩ := Fre.put (k := mv.slot.toNat) Fs1 (by simp [ls]; omega) (r := [str (at8 r.out mv.block)]) rfl rfl
    simp only [sl, Value.slice.injEq, Option.some.injEq, Addr.mk.injEq, and_true] at z1
    obtain ⟨rfl, -, rfl⟩ := z1
    simp -implicitDefEqProofs only [go_sem, ↓reduceIte, reduceCtorEq, Int.reduceEq, Int.reduceLT, Int.reduceLE, Nat.reduceEqDiff, Nat.reduceAdd, Nat.reduceMul, Nat.reduceLeDiff, Nat.reduceSub, Int.reduceNeg, mk, ldc_get G11, q7, q8, s0, s7, b0, bn, show mv.slot < ((8 : Nat) : Int) by omega, ro, dob, z2, z5, q10, wrap_i64 (show -(9223372036854775808 : Int) ≤ ((k : Int) + 1) by omega) (show ((k : Int) + 1) < 9223372036854775808 by omega), hl, hll, hly, hlw]
    have K := (Keep.refl (fun x => x = b2) h4).set (b := b2) (.inl rfl) ⟨splice ob'.cells (mv.slot.toNat * 1) [str (at8 r.out mv.block)], ob'.size⟩
    have er : runMv w r mv = ⟨r.pre ++ [mv], r.out, r.sl.set mv.slot.toNat (at8 r.out mv.block)⟩ := by unfold runMv; rw [if_pos mk]
    rw [strs_setm] at z6
    refine ⟨m - 1, by omega, _, Ext.refl _, k + 1, by omega, he1.set' z3 _, ?_, ?_, Sw1.keep K (fun c hc => (kw c hc).2), ?_⟩
    · rw [hstep, er]; exact Fo1.keep K (fun c hc e => zo2 (by rw [hbo] at hc; simp only [Option.some.injEq] at hc; rw [hc, e]))
    · rw [hstep, er]; exact z6
    · exact ⟨q2, q9, rfl⟩
  · have hd : ldc h4 b11 0 1 = some [i64 mv.kind] := ldc_get G11 .. |>.trans rfl
    have sw := Sw1
    obtain ⟨_, _, bw, ow, ew, _, rw', lw⟩ := sw
    simp only [hlw, Value.slice.injEq, true_and] at ew rw'
    obtain ⟨rfl, rfl⟩ := ew
    have dw := lw i (w[i]).cells (by simp [hiw])
    rw [stAt_get hiw] at c0 cn r0 r7 hmok
    have so := Fo1.sl
    obtain ⟨_, _, bb, ob, eo, _, ro, lo'⟩ := so
    simp only [List.length_map, strs, lo, Value.slice.injEq, true_and] at eo ro
    obtain ⟨rfl, rfl⟩ := eo
    have dos := lo' (w[i]).src.toNat _ (strs_get c0 cn lo)
    simp -implicitDefEqProofs only [go_sem, ↓reduceIte, reduceCtorEq, Int.reduceEq, Int.reduceLT, Int.reduceLE, Nat.reduceEqDiff, Nat.reduceAdd, Nat.reduceMul, Nat.reduceLeDiff, Nat.reduceSub, Int.reduceNeg, mk, ldc_get G11, q9, hst, Int.natCast_nonneg, Int.ofNat_lt, hiw, rw', dw, hl, hll, hly, hlw]
    intro b12 hb12 n12
    have e12 := (Ext.refl h4).set n12 ⟨(w[i]).cells, 4⟩
    have Fo2 := Fo1.ext e12
    have Fs2 := Fs1.ext e12
    have Sw2 := Sw1.ext e12
    have G12 : (h4.set b12 ⟨(w[i]).cells, 4⟩).get b12 = some ⟨(w[i]).cells, 4⟩ := H.set_get_same _ _ _
    have J11 := e12.2.g b11 _ G11
    have he2 := he1.trans e12
    have hy2 := hy1.ext e12
    have dos2 := ldc_sub e12.2 dos
    simp -implicitDefEqProofs only [go_sem, ↓reduceIte, reduceCtorEq, Int.reduceEq, Int.reduceLT, Int.reduceLE, Nat.reduceEqDiff, Nat.reduceAdd, Nat.reduceMul, Nat.reduceLeDiff, Nat.reduceSub, Int.reduceNeg, hb12, hl, hll, hly, hlw]
    generalize hH2 : h4.set b12 ⟨(w[i]).cells, 4⟩ = h5 at e12 Fo2 Fs2 Sw2 G12 J11 he2 hy2 dos2
    simp -implicitDefEqProofs only [go_sem, ↓reduceIte, reduceCtorEq, Int.reduceEq, Int.reduceLT, Int.reduceLE, Nat.reduceEqDiff, Nat.reduceAdd, Nat.reduceMul, Nat.reduceLeDiff, Nat.reduceSub, Int.reduceNeg, ldc_get G12, q7, c0, cn, ro, dos2, q2, q10, hl, hll, hly, hlw]
    refine PC.use (l11Source_pc (d := k) (l := P) (block := (w[i]).src) hy2 (by omega) (by omega)) ?_
    obtain ⟨t, ht⟩ : ∃ t, source (P.take k) (w[i]).src = t := ⟨_, rfl⟩
    obtain ⟨X, hX⟩ : ∃ X, srcB r (w[i]).src = X := ⟨_, rfl⟩
    rw [hX] at hmok
    have hX' := hX
    unfold srcB at hX'
    rw [hpre, ht] at r0 r7 hX'
    rw [ht]
    have er : runMv w r mv = ⟨r.pre ++ [mv], r.out.set mv.block.toNat (makeB (w[i]) X), r.sl⟩ := by
      unfold runMv; rw [if_neg (by omega), hst, Int.toNat_natCast, stAt_get hiw, hX]
    have ss := Fs2.sl
    obtain ⟨_, _, bs, os, es, _, rs, ls'⟩ := ss
    simp only [sl, List.length_map, strs, ls, Value.slice.injEq, true_and] at es rs
    obtain ⟨rfl, rfl⟩ := es
    obtain ⟨b', c', ob', z1, z2, z3, z4, z5, z6⟩ := Fre.put (k := mv.block.toNat) Fo2 (by simp [lo]; omega) (r := [str (makeB (w[i]) X)]) rfl rfl
    simp only [sl, List.length_map, strs, lo, Value.slice.injEq, true_and] at z1
    obtain ⟨rfl, rfl⟩ := z1
    have hbb : b' = bo := by
      have hbo' := hbo
      obtain ⟨n, hn⟩ : ∃ n, im.length = n + 1 := ⟨im.length - 1, by omega⟩
      rw [hn] at hbo'
      simpa [blk] using hbo'
    have hfin : Fre h (h5.set b' ⟨splice ob'.cells (mv.block.toNat * 1) [str (makeB (w[i]) X)], ob'.size⟩) (sl b2 0 8 8) 1 (strs (runL w im (P.take (k + 1))).sl) ∧ Sl (h5.set b' ⟨splice ob'.cells (mv.block.toNat * 1) [str (makeB (w[i]) X)], ob'.size⟩) (.slice aw w.length cw) 4 (w.map UStep.cells) := by
      have K := (Keep.refl (fun x => x = b') h5).set (b := b') (.inl rfl) ⟨splice ob'.cells (mv.block.toNat * 1) [str (makeB (w[i]) X)], ob'.size⟩
      refine ⟨?_, Sw2.keep K (fun c hc e => (kw c hc).1 (by rw [e, hbb]))⟩
      rw [hstep, er]
      exact Fs2.keep K (fun c hc e => by
        have : c = b2 := by simpa [blk, sl] using hc.symm
        exact zo2 (by rw [← hbb, ← e, this]))
    rw [strs_setm] at z6
    by_cases h0 : 0 ≤ t
    · rw [if_pos h0] at hX'
      subst hX'
      have dsl := ls' t.toNat _ (strs_get h0 r7 ls)
      simp -implicitDefEqProofs only [go_sem, ↓reduceIte, reduceCtorEq, Int.reduceEq, Int.reduceLT, Int.reduceLE, Nat.reduceEqDiff, Nat.reduceAdd, Nat.reduceMul, Nat.reduceLeDiff, Nat.reduceSub, Int.reduceNeg, h0, q8, show t < ((8 : Nat) : Int) by omega, rs, dsl, ldc_get J11, ldc_get G12, q7, hl, hll, hly, hlw]
      refine (l07Make_pc _ (w[i]) hmok).use ?_
      simp -implicitDefEqProofs only [go_sem, ↓reduceIte, reduceCtorEq, Int.reduceEq, Int.reduceLT, Int.reduceLE, Nat.reduceEqDiff, Nat.reduceAdd, Nat.reduceMul, Nat.reduceLeDiff, Nat.reduceSub, Int.reduceNeg, b0, bn, z2, z5, q10, wrap_i64 (show -(9223372036854775808 : Int) ≤ ((k : Int) + 1) by omega) (show ((k : Int) + 1) < 9223372036854775808 by omega), hl, hll, hly, hlw]
      refine ⟨m - 1, by omega, _, Ext.refl _, k + 1, by omega, he2.set' z3 _, ?_, hfin.1, hfin.2, ?_⟩
      · rw [hstep, er]; exact z6
      · first | exact ⟨q2, q7, q8, q9, rfl⟩ | exact ⟨q2, q7, q9, rfl⟩ | exact ⟨q2, q9, rfl⟩
    · rw [if_neg h0] at hX'
      subst hX'
      simp -implicitDefEqProofs only [go_sem, ↓reduceIte, reduceCtorEq, Int.reduceEq, Int.reduceLT, Int.reduceLE, Nat.reduceEqDiff, Nat.reduceAdd, Nat.reduceMul, Nat.reduceLeDiff, Nat.reduceSub, Int.reduceNeg, h0, q8, ldc_get J11, ldc_get G12, q7, hl, hll, hly, hlw]
      refine (l07Make_pc _ (w[i]) hmok).use ?_
      simp -implicitDefEqProofs only [go_sem, ↓reduceIte, reduceCtorEq, Int.reduceEq, Int.reduceLT, Int.reduceLE, Nat.reduceEqDiff, Nat.reduceAdd, Nat.reduceMul, Nat.reduceLeDiff, Nat.reduceSub, Int.reduceNeg, b0, bn, z2, z5, q10, wrap_i64 (show -(9223372036854775808 : Int) ≤ ((k : Int) + 1) by omega) (show ((k : Int) + 1) < 9223372036854775808 by omega), hl, hll, hly, hlw]
      refine ⟨m - 1, by omega, _, Ext.refl _, k + 1, by omega, he2.set' z3 _, ?_, hfin.1, hfin.2, ?_⟩
      · rw [hstep, er]; exact z6
      · first | exact ⟨q2, q7, q8, q9, rfl⟩ | exact ⟨q2, q7, q9, rfl⟩ | exact ⟨q2, q9, rfl⟩
end Go.Proofs.Ytpponffjeilhmaa
