/- SnapRead of the program returns what SnapRead of the reference returns, for all arguments: the given statement, with no condition. -/
import Derived.Test.YtjgonndohjlhlaaC10t
import Derived.Test.YtjgonndohjlhlaaRows
import Derived.ProofKit
import Derived.ShutString
import Derived.ChangeOld
import Derived.Below
set_option linter.unusedVariables false
set_option linter.unusedSimpArgs false
set_option maxRecDepth 100000
namespace Go.Proofs.Ytjgonndohjlhlaa
open Go.KH

/-- laws.FnExactSnapRead -/
def b_laws_FnExactSnapRead : C := (.seq (.ops [q 6 (.mv (.c (.bool false)))])
 (.seq (.ops [q 7 (.mv (.c (i64 1048576)))])
 (.seq (.ops [q 12 (.mv (.t 0)), q 13 (.mv (.t 7)), ⟨(some 14), none, .call (.c (.func (.func 33) #[] #[])) [(.t 12), (.t 13)]⟩, q 7 (.mv (.t 14))])
 (.seq (.seq (.ops [q 15 (.mv (.t 7)), q 16 (.bin .lss (.t 15) (.c (i64 0)))])
 (.cond (.t 16) (.seq (.ops [q 6 (.mv (.c (.bool true)))])
 .ret) .skip))
 (.seq (.ops [q 17 (.mv (.t 1)), q 18 (.mv (.t 7)), ⟨(some 19), none, .call (.c (.func (.func 47) #[] #[])) [(.t 17), (.t 18)]⟩, q 7 (.mv (.t 19))])
 (.seq (.seq (.ops [q 20 (.mv (.t 7)), q 21 (.bin .lss (.t 20) (.c (i64 0)))])
 (.cond (.t 21) (.seq (.ops [q 6 (.mv (.c (.bool true)))])
 .ret) .skip))
 (.seq (.ops [q 22 (.mv (.t 0)), ⟨(some 23), none, .call (.c (.func (.func 35) #[] #[])) [(.t 22)]⟩, q 24 (.mv (.t 1)), ⟨(some 25), none, .call (.c (.func (.func 49) #[] #[])) [(.t 24)]⟩, q 26 (.mv (.t 2)), ⟨(some 27), none, .call (.c (.func (.func 48) #[] #[])) [(.t 23), (.t 25), (.t 26)]⟩, ⟨(some 8), none, .alloc [(str []), (i64 0), (i64 0)]⟩, ⟨none, none, .st 3 (.t 8) (.t 27)⟩])
 (.seq (.ops [q 28 (.mv (.t 0)), ⟨(some 29), none, .call (.c (.func (.func 35) #[] #[])) [(.t 28)]⟩, q 9 (.mv (.t 29))])
 (.seq (.ops [q 30 (.mv (.t 1)), ⟨(some 31), none, .call (.c (.func (.func 49) #[] #[])) [(.t 30)]⟩, q 10 (.mv (.t 31))])
 (.seq (.ops [q 32 (.mv (.t 9)), q 33 (.mv (.t 10)), q 34 (.mv (.t 2)), ⟨(some 35), none, .call (.c (.func (.func 50) #[] #[])) [(.t 32), (.t 33), (.t 34)]⟩, ⟨(some 11), none, .alloc [(str []), (i64 0), (i64 0)]⟩, ⟨none, none, .st 3 (.t 11) (.t 35)⟩])
 (.seq (.seq (.ops [q 36 (.ld true 3 (.t 11)), q 37 (.ld true 3 (.t 8)), ⟨(some 38), none, .call (.c (.func (.func 51) #[] #[])) [(.t 36), (.t 37)]⟩, q 39 (.un .not (.t 38))])
 (.cond (.t 39) (.seq (.ops [q 6 (.mv (.c (.bool false)))])
 .ret) .skip))
 (.seq (.seq (.ops [q 40 (.mv (.t 9)), q 41 (.mv (.t 0)), ⟨(some 42), none, .call (.c (.func (.func 35) #[] #[])) [(.t 41)]⟩, ⟨(some 43), none, .call (.c (.func (.func 38) #[] #[])) [(.t 40), (.t 42)]⟩, q 44 (.un .not (.t 43))])
 (.cond (.t 44) (.seq (.ops [q 6 (.mv (.c (.bool false)))])
 .ret) .skip))
 (.seq (.seq (.ops [q 45 (.mv (.t 10)), q 46 (.mv (.t 1)), ⟨(some 47), none, .call (.c (.func (.func 49) #[] #[])) [(.t 46)]⟩, ⟨(some 48), none, .call (.c (.func (.func 52) #[] #[])) [(.t 45), (.t 47)]⟩, q 49 (.un .not (.t 48))])
 (.cond (.t 49) (.seq (.ops [q 6 (.mv (.c (.bool false)))])
 .ret) .skip))
 (.seq (.ops [q 6 (.mv (.c (.bool true)))])
 .ret))))))))))))))
theorem w_laws_FnExactSnapRead {args : List Value} {h : H} {Q : Value → H → Prop} (hl : args.length ≤ 50) (hk : wpc Try.prog b_laws_FnExactSnapRead (retw [.tmp 6] Q) (argsFr args) h) : AC Try.prog 9 args h Q :=
  AC.of_wpc mixedOrders Try.func9 (by kernel_rfl) (by kernel_rfl : prepF Try.prog Try.f9 = some ⟨50, [.tmp 6], b_laws_FnExactSnapRead⟩) hl hk


set_option maxHeartbeats 1600000 in
theorem snapRead_walk {h : H} {va vb : Value} {l : List (List UInt8)} {u : List UStep} {block : Int} (A0 : RepR h [.s 1 (strs l)] [va]) (n1 : l.length ≤ maxLen) (n2 : ∀ s ∈ l, s.length ≤ maxLen) (B0 : RepR h [.s 4 (u.map UStep.cells)] [vb]) (m1 : u.length ≤ maxLen) (m2 : ∀ s ∈ u, s.ok) (hblk : in64 block) : AC Try.prog 9 [va, vb, i64 block] h fun r _ => r = .bool true := by
  skip
  refine w_laws_FnExactSnapRead (by simp) ?_
  unfold b_laws_FnExactSnapRead
  simp -implicitDefEqProofs only [go_sem, ↓reduceIte, reduceCtorEq, Int.reduceEq, Int.reduceLT, Int.reduceLE, Nat.reduceEqDiff, Nat.reduceAdd, Nat.reduceMul, Nat.reduceLeDiff, Nat.reduceSub, Int.reduceNeg]
  refine (szStringS_pc (A0).1 n1 n2 (by omega)).use ?_
  simp -implicitDefEqProofs only [go_sem, ↓reduceIte, reduceCtorEq, Int.reduceEq, Int.reduceLT, Int.reduceLE, Nat.reduceEqDiff, Nat.reduceAdd, Nat.reduceMul, Nat.reduceLeDiff, Nat.reduceSub, Int.reduceNeg]
  refine Br.of (fun hc0 => ?_) (fun hc0 => ?_)
  · simp -implicitDefEqProofs only [go_sem, ↓reduceIte, reduceCtorEq, Int.reduceEq, Int.reduceLT, Int.reduceLE, Nat.reduceEqDiff, Nat.reduceAdd, Nat.reduceMul, Nat.reduceLeDiff, Nat.reduceSub, Int.reduceNeg, hc0]
  have sz0 := lessn_nn hc0
  simp -implicitDefEqProofs only [go_sem, ↓reduceIte, reduceCtorEq, Int.reduceEq, Int.reduceLT, Int.reduceLE, Nat.reduceEqDiff, Nat.reduceAdd, Nat.reduceMul, Nat.reduceLeDiff, Nat.reduceSub, Int.reduceNeg, hc0]
  refine (szStepS_pc (B0).1 m1 m2 (by omega)).use ?_
  simp -implicitDefEqProofs only [go_sem, ↓reduceIte, reduceCtorEq, Int.reduceEq, Int.reduceLT, Int.reduceLE, Nat.reduceEqDiff, Nat.reduceAdd, Nat.reduceMul, Nat.reduceLeDiff, Nat.reduceSub, Int.reduceNeg]
  refine Br.of (fun hc1 => ?_) (fun hc1 => ?_)
  · simp -implicitDefEqProofs only [go_sem, ↓reduceIte, reduceCtorEq, Int.reduceEq, Int.reduceLT, Int.reduceLE, Nat.reduceEqDiff, Nat.reduceAdd, Nat.reduceMul, Nat.reduceLeDiff, Nat.reduceSub, Int.reduceNeg, hc1]
  have hsm : l.length ≤ 1048576 := by omega
  have hsmu : u.length ≤ 1048576 := by have := lessn_nn hc1; omega
  simp -implicitDefEqProofs only [go_sem, ↓reduceIte, reduceCtorEq, Int.reduceEq, Int.reduceLT, Int.reduceLE, Nat.reduceEqDiff, Nat.reduceAdd, Nat.reduceMul, Nat.reduceLeDiff, Nat.reduceSub, Int.reduceNeg, hc1]
  refine AC_of (toStringS_ac (A0).1 hsm) ?_
  rintro v_wa x1 - ⟨e1, f_wa⟩
  have T_wa := rep1 f_wa
  have D_a_wa := DjL.of (RepR.known A0) (RepF.new T_wa)
  have D_b_wa := DjL.of (RepR.known B0) (RepF.new T_wa)
  have R1_a := RepR.ext A0 e1
  have R1_b := RepR.ext B0 e1
  simp -implicitDefEqProofs only [go_sem, ↓reduceIte, reduceCtorEq, Int.reduceEq, Int.reduceLT, Int.reduceLE, Nat.reduceEqDiff, Nat.reduceAdd, Nat.reduceMul, Nat.reduceLeDiff, Nat.reduceSub, Int.reduceNeg]
  refine AC_of (toStepS_ac (R1_b).1 hsmu) ?_
  rintro v_wb x2 - ⟨e2, f_wb⟩
  have T_wb := rep1 f_wb
  have D_a_wb := DjL.of (RepR.known R1_a) (RepF.new T_wb)
  have D_b_wb := DjL.of (RepR.known R1_b) (RepF.new T_wb)
  have D_wa_wb := DjL.of (RepR.known T_wa.r) (RepF.new T_wb)
  have R2_a := RepR.ext R1_a e2
  have R2_b := RepR.ext R1_b e2
  have R2_wa := RepR.ext T_wa.r e2
  have F2_wa := RepF.ext T_wa e2
  simp -implicitDefEqProofs only [go_sem, ↓reduceIte, reduceCtorEq, Int.reduceEq, Int.reduceLT, Int.reduceLE, Nat.reduceEqDiff, Nat.reduceAdd, Nat.reduceMul, Nat.reduceLeDiff, Nat.reduceSub, Int.reduceNeg]
  refine (specSnapRead_pc (F2_wa.r).1 (T_wb.r).1 hsm hsmu hblk).use ?_
  simp -implicitDefEqProofs only [go_sem, ↓reduceIte, reduceCtorEq, Int.reduceEq, Int.reduceLT, Int.reduceLE, Nat.reduceEqDiff, Nat.reduceAdd, Nat.reduceMul, Nat.reduceLeDiff, Nat.reduceSub, Int.reduceNeg]
  intro b_w0 hb_b_w0 n_b_w0
  have nn_wa_b_w0 := F2_wa.r.known.ne n_b_w0
  have nn_wb_b_w0 := T_wb.r.known.ne n_b_w0
  have E_b_w0 := (Ext.refl x2).set n_b_w0 ⟨[str (snapOut l u block).1, i64 0, i64 (snapOut l u block).2], 3⟩
  simp -implicitDefEqProofs only [go_sem, ↓reduceIte, reduceCtorEq, Int.reduceEq, Int.reduceLT, Int.reduceLE, Nat.reduceEqDiff, Nat.reduceAdd, Nat.reduceMul, Nat.reduceLeDiff, Nat.reduceSub, Int.reduceNeg, hb_b_w0]
  have R3_a := RepR.ext R2_a E_b_w0
  have R3_b := RepR.ext R2_b E_b_w0
  have R3_wa := RepR.ext F2_wa.r E_b_w0
  have R3_wb := RepR.ext T_wb.r E_b_w0
  have F3_wa := RepF.ext F2_wa E_b_w0
  have F3_wb := RepF.ext T_wb E_b_w0
  have G3_b_w0 : (x2.set b_w0 ⟨[str (snapOut l u block).1, i64 0, i64 (snapOut l u block).2], 3⟩).get b_w0 = some ⟨[str (snapOut l u block).1, i64 0, i64 (snapOut l u block).2], 3⟩ := H.set_get_same _ _ _
  refine AC_of (toStringS_ac (R3_a).1 hsm) ?_
  rintro v_xa x3 - ⟨e3, f_xa⟩
  have T_xa := rep1 f_xa
  have nn_xa_b_w0 := RepF.new T_xa |>.ne G3_b_w0
  have D_a_xa := DjL.of (RepR.known R3_a) (RepF.new T_xa)
  have D_b_xa := DjL.of (RepR.known R3_b) (RepF.new T_xa)
  have G4_b_w0 := e3.2.g b_w0 _ G3_b_w0
  have R4_a := RepR.ext R3_a e3
  have R4_b := RepR.ext R3_b e3
  simp -implicitDefEqProofs only [go_sem, ↓reduceIte, reduceCtorEq, Int.reduceEq, Int.reduceLT, Int.reduceLE, Nat.reduceEqDiff, Nat.reduceAdd, Nat.reduceMul, Nat.reduceLeDiff, Nat.reduceSub, Int.reduceNeg, ldc_get G4_b_w0]
  refine AC_of (toStepS_ac (R4_b).1 hsmu) ?_
  rintro v_xb x4 - ⟨e4, f_xb⟩
  have T_xb := rep1 f_xb
  have nn_xb_b_w0 := RepF.new T_xb |>.ne G4_b_w0
  have D_a_xb := DjL.of (RepR.known R4_a) (RepF.new T_xb)
  have D_b_xb := DjL.of (RepR.known R4_b) (RepF.new T_xb)
  have D_xa_xb := DjL.of (RepR.known T_xa.r) (RepF.new T_xb)
  have G5_b_w0 := e4.2.g b_w0 _ G4_b_w0
  have R5_a := RepR.ext R4_a e4
  have R5_b := RepR.ext R4_b e4
  have R5_xa := RepR.ext T_xa.r e4
  have F5_xa := RepF.ext T_xa e4
  simp -implicitDefEqProofs only [go_sem, ↓reduceIte, reduceCtorEq, Int.reduceEq, Int.reduceLT, Int.reduceLE, Nat.reduceEqDiff, Nat.reduceAdd, Nat.reduceMul, Nat.reduceLeDiff, Nat.reduceSub, Int.reduceNeg, ldc_get G5_b_w0]
  refine (implSnapRead_pc (F5_xa.r).1 (T_xb.r).1 hsm hsmu hblk).use ?_
  simp -implicitDefEqProofs only [go_sem, ↓reduceIte, reduceCtorEq, Int.reduceEq, Int.reduceLT, Int.reduceLE, Nat.reduceEqDiff, Nat.reduceAdd, Nat.reduceMul, Nat.reduceLeDiff, Nat.reduceSub, Int.reduceNeg, ldc_get G5_b_w0]
  intro b_g0 hb_b_g0 n_b_g0
  have z_b_w0_b_g0 : (b_w0 = b_g0) = False := eq_false fun e => by subst e; rw [G5_b_w0] at n_b_g0; cases n_b_g0
  have nn_xa_b_g0 := F5_xa.r.known.ne n_b_g0
  have nn_xb_b_g0 := T_xb.r.known.ne n_b_g0
  have E_b_g0 := (Ext.refl x4).set n_b_g0 ⟨[str (snapOut l u block).1, i64 0, i64 (snapOut l u block).2], 3⟩
  simp -implicitDefEqProofs only [go_sem, ↓reduceIte, reduceCtorEq, Int.reduceEq, Int.reduceLT, Int.reduceLE, Nat.reduceEqDiff, Nat.reduceAdd, Nat.reduceMul, Nat.reduceLeDiff, Nat.reduceSub, Int.reduceNeg, hb_b_g0, ldc_get G5_b_w0, z_b_w0_b_g0]
  have G6_b_w0 := E_b_g0.2.g b_w0 _ G5_b_w0
  have R6_a := RepR.ext R5_a E_b_g0
  have R6_b := RepR.ext R5_b E_b_g0
  have R6_xa := RepR.ext F5_xa.r E_b_g0
  have R6_xb := RepR.ext T_xb.r E_b_g0
  have F6_xa := RepF.ext F5_xa E_b_g0
  have F6_xb := RepF.ext T_xb E_b_g0
  have G6_b_g0 : (x4.set b_g0 ⟨[str (snapOut l u block).1, i64 0, i64 (snapOut l u block).2], 3⟩).get b_g0 = some ⟨[str (snapOut l u block).1, i64 0, i64 (snapOut l u block).2], 3⟩ := H.set_get_same _ _ _
  refine (eqTextOut_pc _ _ _ _).use ?_
  simp -implicitDefEqProofs only [go_sem, ↓reduceIte, reduceCtorEq, Int.reduceEq, Int.reduceLT, Int.reduceLE, Nat.reduceEqDiff, Nat.reduceAdd, Nat.reduceMul, Nat.reduceLeDiff, Nat.reduceSub, Int.reduceNeg, ldc_get G6_b_w0, ldc_get G6_b_g0, z_b_w0_b_g0]
  refine AC_of (toStringS_ac (R6_a).1 hsm) ?_
  rintro v_ya x5 - ⟨e5, f_ya⟩
  have T_ya := rep1 f_ya
  have G7_b_w0 := e5.2.g b_w0 _ G6_b_w0
  have G7_b_g0 := e5.2.g b_g0 _ G6_b_g0
  have R7_a := RepR.ext R6_a e5
  have R7_b := RepR.ext R6_b e5
  have R7_xa := RepR.ext F6_xa.r e5
  have R7_xb := RepR.ext F6_xb.r e5
  have F7_xa := RepF.ext F6_xa e5
  have F7_xb := RepF.ext F6_xb e5
  simp -implicitDefEqProofs only [go_sem, ↓reduceIte, reduceCtorEq, Int.reduceEq, Int.reduceLT, Int.reduceLE, Nat.reduceEqDiff, Nat.reduceAdd, Nat.reduceMul, Nat.reduceLeDiff, Nat.reduceSub, Int.reduceNeg, e5.2, ldc_get G7_b_w0, ldc_get G7_b_g0, z_b_w0_b_g0]
  refine (eqStringS_pc (F7_xa.r).1 (T_ya.r).1 n1).use ?_
  simp -implicitDefEqProofs only [go_sem, ↓reduceIte, reduceCtorEq, Int.reduceEq, Int.reduceLT, Int.reduceLE, Nat.reduceEqDiff, Nat.reduceAdd, Nat.reduceMul, Nat.reduceLeDiff, Nat.reduceSub, Int.reduceNeg, e5.2, ldc_get G7_b_w0, ldc_get G7_b_g0, z_b_w0_b_g0]
  refine AC_of (toStepS_ac (R7_b).1 hsmu) ?_
  rintro v_yb x6 - ⟨e6, f_yb⟩
  have T_yb := rep1 f_yb
  have G8_b_w0 := e6.2.g b_w0 _ G7_b_w0
  have G8_b_g0 := e6.2.g b_g0 _ G7_b_g0
  have R8_a := RepR.ext R7_a e6
  have R8_b := RepR.ext R7_b e6
  have R8_xa := RepR.ext F7_xa.r e6
  have R8_xb := RepR.ext F7_xb.r e6
  have F8_xa := RepF.ext F7_xa e6
  have F8_xb := RepF.ext F7_xb e6
  simp -implicitDefEqProofs only [go_sem, ↓reduceIte, reduceCtorEq, Int.reduceEq, Int.reduceLT, Int.reduceLE, Nat.reduceEqDiff, Nat.reduceAdd, Nat.reduceMul, Nat.reduceLeDiff, Nat.reduceSub, Int.reduceNeg, e6.2, ldc_get G8_b_w0, ldc_get G8_b_g0, z_b_w0_b_g0]
  refine (eqStepS_pc (F8_xb.r).1 (T_yb.r).1 m1).use ?_
  simp -implicitDefEqProofs only [go_sem, ↓reduceIte, reduceCtorEq, Int.reduceEq, Int.reduceLT, Int.reduceLE, Nat.reduceEqDiff, Nat.reduceAdd, Nat.reduceMul, Nat.reduceLeDiff, Nat.reduceSub, Int.reduceNeg, e6.2, ldc_get G8_b_w0, ldc_get G8_b_g0, z_b_w0_b_g0]
theorem snapRead_law (h : H) (args : List Value) (ha : okAs h [.one (.sl [.str]), .one (.sl [.int .i64, .int .i64, .int .i64, .str]), .one (.f (.int .i64))] args) : AC Try.prog 9 args h fun r _ => r = .bool true := by
  obtain ⟨v, _, rfl, ⟨rows, hs, hf, hn⟩, a0⟩ := okAs_cons ha
  obtain ⟨v2, _, rfl, ⟨rows2, hs2, hf2, hn2⟩, a1⟩ := okAs_cons a0
  obtain ⟨_, _, rfl, q, a2⟩ := okAs_cons a1
  obtain ⟨block, rfl, hblk⟩ := q
  obtain rfl := okAs_nil a2
  obtain ⟨l, rfl, hok⟩ := strs_of rows hf
  obtain ⟨u, rfl, hok2⟩ := steps_of rows2 hf2
  exact snapRead_walk ⟨hs, trivial⟩ (by simpa using hn) hok ⟨hs2, trivial⟩ (by simpa using hn2) hok2 hblk
section
open Go.ChangeShapes Go.WideShapes Go.ChangeAt Go.RowKit
theorem fnExactSnapRead_lifted (os : Os) (started : os.Started) (H' : Type) (enc : TypeId × Value → H') : ReturnsInHanded {} Try.checked os 9 .any (Rows.fnExactSnapReadSpec.pre6 enc Try.prog Try.f9 Rows.fnExactSnapReadRow.domain false) (Rows.fnExactSnapReadSpec.post enc Try.prog Try.f9 false true false false) :=
  law_row (Ck := Try.checked) [.one (.sl [.str]), .one (.sl [.int .i64, .int .i64, .int .i64, .str]), .one (.f (.int .i64))] (by kernel_rfl) started (by kernel_rfl) Try.func9 (ChangeSpec.witness6 (enc := enc) (C := Try.checked) false ⟨#[], #[.slice none 0 0, .slice none 0 0, .int .i64 0], []⟩ 8 (by kernel_rfl) (by kernel_rfl) (by kernel_rfl) (by kernel_rfl))
    (by kernel_rfl) (by kernel_rfl) rfl (by kernel_rfl : Try.prog.underlying (Try.f9.resultTypes.getD 0 0) = some .bool) rfl
    (fun ds hd => by
      rw [show Try.f9.params.toList.length = 3 by kernel_rfl] at hd
      match ds, hd with
      | [_, _, _], _ => rfl)
    (by kernel_rfl) snapRead_law
theorem fnExactSnapRead_holds : Rows.FnExactSnapReadSaid :=
  OpenClaim.holds_of_wide 9 Try.f9 rfl rfl rfl rfl rfl rfl rfl ⟨rfl, rfl, rfl, rfl, rfl⟩ rfl rfl rfl rfl rfl (by kernel_rfl) Try.func9 (by kernel_rfl)
    (of_decide_eq_true (by kernel_rfl)) (by unfold Func.isWrapper; first | (rw [if_pos (by decide +kernel)]; kernel_rfl) | (rw [if_neg (by decide +kernel)]; exact ⟨rfl, rfl⟩))
    (fun os started H' enc _ => fnExactSnapRead_lifted os started H' enc)
end
end Go.Proofs.Ytjgonndohjlhlaa
