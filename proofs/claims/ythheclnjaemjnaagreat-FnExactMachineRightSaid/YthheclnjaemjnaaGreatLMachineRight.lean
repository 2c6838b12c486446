/- MachineRight of the program returns what MachineRight of the reference returns, for all arguments: the given statement, with no condition. -/
import Derived.Test.YthheclnjaemjnaaGreatC13r
import Derived.Test.YthheclnjaemjnaaGreatCGm
import Derived.Test.YthheclnjaemjnaaGreatRows
import Derived.ProofKit
import Derived.ShutString
import Derived.ChangeOld
import Derived.Below
set_option linter.unusedVariables false
set_option linter.unusedSimpArgs false
set_option maxRecDepth 100000
namespace Go.Proofs.YthheclnjaemjnaaGreat
open Go.KH

/-- laws.FnExactMachineRight -/
def b_laws_FnExactMachineRight : C := (.seq (.ops [⟨(some 1), none, .box (.t 0)⟩, q 2 (.mv (.c (.bool false)))])
 (.seq (.ops [q 3 (.mv (.c (i64 1048576)))])
 (.seq (.ops [q 7 (.ld true 3 (.t 1)), q 8 (.mv (.t 3)), ⟨(some 9), none, .call (.c (.func (.func 6) #[] #[])) [(.t 7), (.t 8)]⟩, q 3 (.mv (.t 9))])
 (.seq (.seq (.ops [q 10 (.mv (.t 3)), q 11 (.bin .lss (.t 10) (.c (i64 0)))])
 (.cond (.t 11) (.seq (.ops [q 2 (.mv (.c (.bool true)))])
 .ret) .skip))
 (.seq (.ops [q 12 (.ld true 3 (.t 1)), ⟨(some 13), none, .call (.c (.func (.func 8) #[] #[])) [(.t 12)]⟩, ⟨(some 14), none, .call (.c (.func (.func 15) #[] #[])) [(.t 13)]⟩, q 4 (.mv (.t 14))])
 (.seq (.ops [q 15 (.ld true 3 (.t 1)), ⟨(some 16), none, .call (.c (.func (.func 8) #[] #[])) [(.t 15)]⟩, ⟨(some 5), none, .alloc [(i64 0), nils, nils]⟩, ⟨none, none, .st 3 (.t 5) (.t 16)⟩])
 (.seq (.ops [q 17 (.ld true 3 (.t 5)), ⟨(some 18), none, .call (.c (.func (.func 16) #[] #[])) [(.t 17)]⟩, q 6 (.mv (.t 18))])
 (.seq (.seq (.ops [q 19 (.mv (.t 6)), q 20 (.mv (.t 4)), q 21 (.eqb true (.t 19) (.t 20))])
 (.cond (.t 21) (.seq (.ops [q 2 (.mv (.c (.bool false)))])
 .ret) .skip))
 (.seq (.seq (.dops true (.tk (q 22 (.ld true 3 (.t 5))) (.tk (q 23 (.ld true 3 (.t 1))) (.sq (⟨(some 24), none, .call (.c (.func (.func 8) #[] #[])) [(.t 23)]⟩) (.sq (⟨(some 25), none, .call (.c (.func (.func 11) #[] #[])) [(.t 22), (.t 24)]⟩) (.tk (q 26 (.un .not (.t 25))) .nil))))))
 (.cond (.t 26) (.seq (.ops [q 2 (.mv (.c (.bool false)))])
 .ret) .skip))
 (.seq (.ops [q 2 (.mv (.c (.bool true)))])
 .ret))))))))))
theorem w_laws_FnExactMachineRight {args : List Value} {h : H} {Q : Value → H → Prop} (hl : args.length ≤ 27) (hk : wpc Tryz.prog b_laws_FnExactMachineRight (retw [.tmp 2] Q) (argsFr args) h) : AC Tryz.prog 4 args h Q :=
  AC.of_wpc mixedOrders Tryz.func4 (by kernel_rfl) (by kernel_rfl : prepF Tryz.prog Tryz.f4 = some ⟨27, [.tmp 2], b_laws_FnExactMachineRight⟩) hl hk


set_option maxHeartbeats 1600000 in
theorem machineRight_walk {h : H} {ca : List Value} {m : UMach} (A0 : RepR h (spMach m) ca) (ok1 : m.ok) : AC Tryz.prog 4 [.agg ca.toArray] h fun r _ => r = .bool true := by
  have l_a := A0.len
  simp only [List.length_cons, List.length_nil, Nat.reduceAdd] at l_a
  have q_a := A0.one
  have t_a := take_len l_a
  refine w_laws_FnExactMachineRight (by simp) ?_
  unfold b_laws_FnExactMachineRight
  simp -implicitDefEqProofs only [go_sem, ↓reduceIte, reduceCtorEq, Int.reduceEq, Int.reduceLT, Int.reduceLE, Nat.reduceEqDiff, Nat.reduceAdd, Nat.reduceMul, Nat.reduceLeDiff, Nat.reduceSub, Int.reduceNeg, l_a, q_a, t_a]
  intro b_a hb_b_a n_b_a
  have E_b_a := (Ext.refl h).set n_b_a ⟨ca, 3⟩
  simp -implicitDefEqProofs only [go_sem, ↓reduceIte, reduceCtorEq, Int.reduceEq, Int.reduceLT, Int.reduceLE, Nat.reduceEqDiff, Nat.reduceAdd, Nat.reduceMul, Nat.reduceLeDiff, Nat.reduceSub, Int.reduceNeg, hb_b_a, l_a, q_a, t_a]
  have R1_a := RepR.ext A0 E_b_a
  have G1_b_a : (h.set b_a ⟨ca, 3⟩).get b_a = some ⟨ca, 3⟩ := H.set_get_same _ _ _
  refine (szMachine_pc R1_a ok1 (by omega)).use ?_
  simp -implicitDefEqProofs only [go_sem, ↓reduceIte, reduceCtorEq, Int.reduceEq, Int.reduceLT, Int.reduceLE, Nat.reduceEqDiff, Nat.reduceAdd, Nat.reduceMul, Nat.reduceLeDiff, Nat.reduceSub, Int.reduceNeg, ldc_get G1_b_a, l_a, q_a, t_a]
  refine Br.of (fun hc0 => ?_) (fun hc0 => ?_)
  · simp -implicitDefEqProofs only [go_sem, ↓reduceIte, reduceCtorEq, Int.reduceEq, Int.reduceLT, Int.reduceLE, Nat.reduceEqDiff, Nat.reduceAdd, Nat.reduceMul, Nat.reduceLeDiff, Nat.reduceSub, Int.reduceNeg, hc0, ldc_get G1_b_a, l_a, q_a, t_a]
  have sm := flSz_small (by omega) hc0
  have hfn := flN_le sm.fin1
  simp -implicitDefEqProofs only [go_sem, ↓reduceIte, reduceCtorEq, Int.reduceEq, Int.reduceLT, Int.reduceLE, Nat.reduceEqDiff, Nat.reduceAdd, Nat.reduceMul, Nat.reduceLeDiff, Nat.reduceSub, Int.reduceNeg, hc0, ldc_get G1_b_a, l_a, q_a, t_a]
  refine AC_of (toMachine_ac R1_a sm) ?_
  rintro _ x1 - ⟨e1, v_wa, rfl, T_wa⟩
  have nn_wa_b_a := RepF.new T_wa |>.ne G1_b_a
  have D_a_wa := DjL.of (RepR.known R1_a) (RepF.new T_wa)
  have G2_b_a := e1.2.g b_a _ G1_b_a
  have R2_a := RepR.ext R1_a e1
  have l_v_wa := T_wa.r.len
  simp only [List.length_cons, List.length_nil, Nat.reduceAdd] at l_v_wa
  have q_v_wa := T_wa.r.one
  have t_v_wa := take_len l_v_wa
  simp -implicitDefEqProofs only [go_sem, ↓reduceIte, reduceCtorEq, Int.reduceEq, Int.reduceLT, Int.reduceLE, Nat.reduceEqDiff, Nat.reduceAdd, Nat.reduceMul, Nat.reduceLeDiff, Nat.reduceSub, Int.reduceNeg, ldc_get G2_b_a, l_a, q_a, t_a, l_v_wa, q_v_wa, t_v_wa]
  refine (specMachineRight_pc T_wa.r sm.fin1).use ?_
  simp -implicitDefEqProofs only [go_sem, ↓reduceIte, reduceCtorEq, Int.reduceEq, Int.reduceLT, Int.reduceLE, Nat.reduceEqDiff, Nat.reduceAdd, Nat.reduceMul, Nat.reduceLeDiff, Nat.reduceSub, Int.reduceNeg, ldc_get G2_b_a, l_a, q_a, t_a, l_v_wa, q_v_wa, t_v_wa]
  refine AC_of (toMachine_ac R2_a sm) ?_
  rintro _ x2 - ⟨e2, v_xa, rfl, T_xa⟩
  have nn_xa_b_a := RepF.new T_xa |>.ne G2_b_a
  have D_a_xa := DjL.of (RepR.known R2_a) (RepF.new T_xa)
  have G3_b_a := e2.2.g b_a _ G2_b_a
  have R3_a := RepR.ext R2_a e2
  have l_v_xa := T_xa.r.len
  simp only [List.length_cons, List.length_nil, Nat.reduceAdd] at l_v_xa
  have q_v_xa := T_xa.r.one
  have t_v_xa := take_len l_v_xa
  simp -implicitDefEqProofs only [go_sem, ↓reduceIte, reduceCtorEq, Int.reduceEq, Int.reduceLT, Int.reduceLE, Nat.reduceEqDiff, Nat.reduceAdd, Nat.reduceMul, Nat.reduceLeDiff, Nat.reduceSub, Int.reduceNeg, ldc_get G3_b_a, l_a, q_a, t_a, l_v_wa, q_v_wa, t_v_wa, l_v_xa, q_v_xa, t_v_xa]
  intro b_xa hb_b_xa n_b_xa
  have z_b_a_b_xa : (b_a = b_xa) = False := eq_false fun e => by subst e; rw [G3_b_a] at n_b_xa; cases n_b_xa
  have nn_xa_b_xa := T_xa.r.known.ne n_b_xa
  have E_b_xa := (Ext.refl x2).set n_b_xa ⟨v_xa, 3⟩
  simp -implicitDefEqProofs only [go_sem, ↓reduceIte, reduceCtorEq, Int.reduceEq, Int.reduceLT, Int.reduceLE, Nat.reduceEqDiff, Nat.reduceAdd, Nat.reduceMul, Nat.reduceLeDiff, Nat.reduceSub, Int.reduceNeg, hb_b_xa, ldc_get G3_b_a, z_b_a_b_xa, l_a, q_a, t_a, l_v_wa, q_v_wa, t_v_wa, l_v_xa, q_v_xa, t_v_xa]
  have G4_b_a := E_b_xa.2.g b_a _ G3_b_a
  have R4_a := RepR.ext R3_a E_b_xa
  have R4_xa := RepR.ext T_xa.r E_b_xa
  have F4_xa := RepF.ext T_xa E_b_xa
  have G4_b_xa : (x2.set b_xa ⟨v_xa, 3⟩).get b_xa = some ⟨v_xa, 3⟩ := H.set_get_same _ _ _
  refine (implMachineRight_pc F4_xa.r sm.fin1).use ?_
  simp -implicitDefEqProofs only [go_sem, ↓reduceIte, reduceCtorEq, Int.reduceEq, Int.reduceLT, Int.reduceLE, Nat.reduceEqDiff, Nat.reduceAdd, Nat.reduceMul, Nat.reduceLeDiff, Nat.reduceSub, Int.reduceNeg, ldc_get G4_b_a, ldc_get G4_b_xa, z_b_a_b_xa, l_a, q_a, t_a, l_v_wa, q_v_wa, t_v_wa, l_v_xa, q_v_xa, t_v_xa]
  refine AC_of (toMachine_ac R4_a sm) ?_
  rintro _ x3 - ⟨e3, v_ya, rfl, T_ya⟩
  have G5_b_a := e3.2.g b_a _ G4_b_a
  have G5_b_xa := e3.2.g b_xa _ G4_b_xa
  have R5_a := RepR.ext R4_a e3
  have R5_xa := RepR.ext F4_xa.r e3
  have F5_xa := RepF.ext F4_xa e3
  simp -implicitDefEqProofs only [go_sem, ↓reduceIte, reduceCtorEq, Int.reduceEq, Int.reduceLT, Int.reduceLE, Nat.reduceEqDiff, Nat.reduceAdd, Nat.reduceMul, Nat.reduceLeDiff, Nat.reduceSub, Int.reduceNeg, e3.2, ldc_get G5_b_a, ldc_get G5_b_xa, z_b_a_b_xa, l_a, q_a, t_a, l_v_wa, q_v_wa, t_v_wa, l_v_xa, q_v_xa, t_v_xa]
  refine (eqMachine_pc F5_xa.r T_ya.r ok1.2.fin).use ?_
  simp -implicitDefEqProofs only [go_sem, ↓reduceIte, reduceCtorEq, Int.reduceEq, Int.reduceLT, Int.reduceLE, Nat.reduceEqDiff, Nat.reduceAdd, Nat.reduceMul, Nat.reduceLeDiff, Nat.reduceSub, Int.reduceNeg, e3.2, ldc_get G5_b_a, ldc_get G5_b_xa, z_b_a_b_xa, l_a, q_a, t_a, l_v_wa, q_v_wa, t_v_wa, l_v_xa, q_v_xa, t_v_xa]
theorem machineRight_law (h : H) (args : List Value) (ha : okAs h [.agg mcLT] args) : AC Tryz.prog 4 args h fun r _ => r = .bool true := by
  obtain ⟨v, _, rfl, ⟨cs, rfl, q0⟩, a0⟩ := okAs_cons ha
  obtain rfl := okAs_nil a0
  obtain ⟨m, r, k⟩ := mach_of q0
  exact machineRight_walk r k
section
open Go.ChangeShapes Go.WideShapes Go.ChangeAt Go.RowKit
theorem fnExactMachineRight_lifted (os : Os) (started : os.Started) (H' : Type) (enc : TypeId × Value → H') : ReturnsInHanded {} Tryz.checked os 4 .any (Rows.fnExactMachineRightSpec.pre6 enc Tryz.prog Tryz.f4 Rows.fnExactMachineRightRow.domain false) (Rows.fnExactMachineRightSpec.post enc Tryz.prog Tryz.f4 false true false false) :=
  law_row (Ck := Tryz.checked) [.agg [.f (.int .i64), .sl [.str], .sl [.int .i64, .str]]] (by kernel_rfl) started (by kernel_rfl) Tryz.func4 (ChangeSpec.witness6 (enc := enc) (C := Tryz.checked) false ⟨#[], #[.agg #[.int .i64 0, .slice none 0 0, .slice none 0 0]], []⟩ 8 (by kernel_rfl) (by kernel_rfl) (by kernel_rfl) (by kernel_rfl))
    (by kernel_rfl) (by kernel_rfl) rfl (by kernel_rfl : Tryz.prog.underlying (Tryz.f4.resultTypes.getD 0 0) = some .bool) rfl
    (fun ds hd => by
      rw [show Tryz.f4.params.toList.length = 1 by kernel_rfl] at hd
      match ds, hd with
      | [_], _ => rfl)
    (by kernel_rfl) machineRight_law
theorem fnExactMachineRight_holds : Rows.FnExactMachineRightSaid :=
  OpenClaim.holds_of_wide 4 Tryz.f4 rfl rfl rfl rfl rfl rfl rfl ⟨rfl, rfl, rfl, rfl, rfl⟩ rfl rfl rfl rfl rfl (by kernel_rfl) Tryz.func4 (by kernel_rfl)
    (of_decide_eq_true (by kernel_rfl)) (by unfold Func.isWrapper; first | (rw [if_pos (by decide +kernel)]; kernel_rfl) | (rw [if_neg (by decide +kernel)]; exact ⟨rfl, rfl⟩))
    (fun os started H' enc _ => fnExactMachineRight_lifted os started H' enc)
end
end Go.Proofs.YthheclnjaemjnaaGreat
