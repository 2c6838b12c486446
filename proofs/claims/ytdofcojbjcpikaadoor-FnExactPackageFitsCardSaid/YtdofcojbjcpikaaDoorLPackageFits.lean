/- PackageFits of the program returns what PackageFits of the reference returns, for all arguments: the given statement, with no condition. -/
import Derived.Test.YtdofcojbjcpikaaDoorCZd
import Derived.Test.YtdofcojbjcpikaaDoorCZe
import Derived.Test.YtdofcojbjcpikaaDoorRows
import Derived.Test.YtdofcojbjcpikaaDoorCards
import Derived.Test.YtdofcojbjcpikaaDoorTie
import Derived.SevenTiedAt
import Derived.ProofKit
import Derived.ShutString
import Derived.ChangeOld
import Derived.Below
set_option linter.unusedVariables false
set_option linter.unusedSimpArgs false
set_option maxRecDepth 100000
namespace Go.Proofs.YtdofcojbjcpikaaDoor
open Go.KH

/-- laws.FnExactPackageFits -/
def b_laws_FnExactPackageFits : C := (.seq (.ops [⟨(some 2), none, .box (.t 0)⟩, q 4 (.mv (.c (.bool false)))])
 (.seq (.ops [q 5 (.mv (.c (i64 1048576)))])
 (.seq (.ops [q 10 (.ld true 3 (.t 2)), q 11 (.mv (.t 5)), ⟨(some 12), none, .call (.c (.func (.func 5) #[] #[])) [(.t 10), (.t 11)]⟩, q 5 (.mv (.t 12))])
 (.seq (.seq (.ops [q 13 (.mv (.t 5)), q 14 (.bin .lss (.t 13) (.c (i64 0)))])
 (.cond (.t 14) (.seq (.ops [q 4 (.mv (.c (.bool true)))])
 .ret) .skip))
 (.seq (.ops [q 15 (.mv (.t 1)), q 16 (.mv (.t 5)), ⟨(some 17), none, .call (.c (.func (.func 6) #[] #[])) [(.t 15), (.t 16)]⟩, q 5 (.mv (.t 17))])
 (.seq (.seq (.ops [q 18 (.mv (.t 5)), q 19 (.bin .lss (.t 18) (.c (i64 0)))])
 (.cond (.t 19) (.seq (.ops [q 4 (.mv (.c (.bool true)))])
 .ret) .skip))
 (.seq (.ops [q 20 (.ld true 3 (.t 2)), ⟨(some 21), none, .call (.c (.func (.func 8) #[] #[])) [(.t 20)]⟩, q 22 (.mv (.t 1)), ⟨(some 23), none, .call (.c (.func (.func 9) #[] #[])) [(.t 22)]⟩, ⟨(some 24), none, .call (.c (.func (.func 7) #[] #[])) [(.t 21), (.t 23)]⟩, q 6 (.mv (.t 24))])
 (.seq (.ops [q 25 (.ld true 3 (.t 2)), ⟨(some 26), none, .call (.c (.func (.func 8) #[] #[])) [(.t 25)]⟩, ⟨(some 7), none, .alloc [(i64 0), (str []), nils]⟩, ⟨none, none, .st 3 (.t 7) (.t 26)⟩])
 (.seq (.ops [q 27 (.mv (.t 1)), ⟨(some 28), none, .call (.c (.func (.func 9) #[] #[])) [(.t 27)]⟩, q 8 (.mv (.t 28))])
 (.seq (.ops [q 29 (.ld true 3 (.t 7)), q 30 (.mv (.t 8)), ⟨(some 31), none, .call (.c (.func (.func 10) #[] #[])) [(.t 29), (.t 30)]⟩, q 9 (.mv (.t 31))])
 (.seq (.seq (.ops [q 32 (.mv (.t 9)), q 33 (.mv (.t 6)), q 34 (.bin .neq (.t 32) (.t 33))])
 (.cond (.t 34) (.seq (.ops [q 4 (.mv (.c (.bool false)))])
 .ret) .skip))
 (.seq (.seq (.dops true (.tk (q 35 (.ld true 3 (.t 7))) (.tk (q 36 (.ld true 3 (.t 2))) (.sq (⟨(some 37), none, .call (.c (.func (.func 8) #[] #[])) [(.t 36)]⟩) (.sq (⟨(some 38), none, .call (.c (.func (.func 11) #[] #[])) [(.t 35), (.t 37)]⟩) (.tk (q 39 (.un .not (.t 38))) .nil))))))
 (.cond (.t 39) (.seq (.ops [q 4 (.mv (.c (.bool false)))])
 .ret) .skip))
 (.seq (.seq (.ops [q 40 (.mv (.t 8)), q 41 (.mv (.t 1)), ⟨(some 42), none, .call (.c (.func (.func 9) #[] #[])) [(.t 41)]⟩, ⟨(some 43), none, .call (.c (.func (.func 12) #[] #[])) [(.t 40), (.t 42)]⟩, q 44 (.un .not (.t 43))])
 (.cond (.t 44) (.seq (.ops [q 4 (.mv (.c (.bool false)))])
 .ret) .skip))
 (.seq (.ops [q 4 (.mv (.c (.bool true)))])
 .ret))))))))))))))
theorem w_laws_FnExactPackageFits {args : List Value} {h : H} {Q : Value → H → Prop} (hl : args.length ≤ 45) (hk : wpc Tryd.prog b_laws_FnExactPackageFits (retw [.tmp 4] Q) (argsFr args) h) : AC Tryd.prog 3 args h Q :=
  AC.of_wpc mixedOrders Tryd.func3 (by kernel_rfl) (by kernel_rfl : prepF Tryd.prog Tryd.f3 = some ⟨45, [.tmp 4], b_laws_FnExactPackageFits⟩) hl hk


set_option maxHeartbeats 1600000 in
theorem packageFits_walk {h : H} (tb : Tabs h) {ca : List Value} {vb : Value} {p : UPkg} {l : List (List UInt8)} (A0 : RepR h (spPkg p) ca) (ok1 : p.ok) (B0 : RepR h [.s 1 (strs l)] [vb]) (n1 : l.length ≤ maxLen) (n2 : ∀ s ∈ l, s.length ≤ maxLen) : AC Tryd.prog 3 [.agg ca.toArray, vb] h fun r _ => r = .bool true := by
  have l_a := A0.len
  simp only [List.length_cons, List.length_nil, Nat.reduceAdd] at l_a
  have q_a := A0.one
  have t_a := take_len l_a
  refine w_laws_FnExactPackageFits (by simp) ?_
  unfold b_laws_FnExactPackageFits
  simp -implicitDefEqProofs only [go_sem, l_a, q_a, t_a]
  intro b_a hb_b_a n_b_a
  have E_b_a := (Ext.refl h).set n_b_a ⟨ca, 3⟩
  simp -implicitDefEqProofs only [go_sem, hb_b_a, l_a, q_a, t_a]
  have R1_a := RepR.ext A0 E_b_a
  have R1_b := RepR.ext B0 E_b_a
  have R1_tb := RepR.ext tb E_b_a
  have G1_b_a : (h.set b_a ⟨ca, 3⟩).get b_a = some ⟨ca, 3⟩ := H.set_get_same _ _ _
  refine (szPackage_pc R1_a ok1 (by omega)).use ?_
  simp -implicitDefEqProofs only [go_sem, ldc_get G1_b_a, l_a, q_a, t_a]
  refine Br.of (fun hc0 => ?_) (fun hc0 => ?_)
  · simp -implicitDefEqProofs only [go_sem, hc0, ldc_get G1_b_a, l_a, q_a, t_a]
  have sz0 := lessn_nn hc0
  simp -implicitDefEqProofs only [go_sem, hc0, ldc_get G1_b_a, l_a, q_a, t_a]
  refine (szStringS_pc (R1_b).1 n1 n2 (by omega)).use ?_
  simp -implicitDefEqProofs only [go_sem, ldc_get G1_b_a, l_a, q_a, t_a]
  refine Br.of (fun hc1 => ?_) (fun hc1 => ?_)
  · simp -implicitDefEqProofs only [go_sem, hc1, ldc_get G1_b_a, l_a, q_a, t_a]
  have sm : p.steps.length ≤ 1048576 := by omega
  have hsm : l.length ≤ 1048576 := by have := lessn_nn hc1; omega
  simp -implicitDefEqProofs only [go_sem, hc1, ldc_get G1_b_a, l_a, q_a, t_a]
  refine AC_of (toPackage_ac R1_a sm) ?_
  rintro _ x1 - ⟨e1, v_wa, rfl, T_wa⟩
  have nn_wa_b_a := RepF.new T_wa |>.ne G1_b_a
  have D_a_wa := DjL.of (RepR.known R1_a) (RepF.new T_wa)
  have D_b_wa := DjL.of (RepR.known R1_b) (RepF.new T_wa)
  have D_tb_wa := DjL.of (RepR.known R1_tb) (RepF.new T_wa)
  have G2_b_a := e1.2.g b_a _ G1_b_a
  have R2_a := RepR.ext R1_a e1
  have R2_b := RepR.ext R1_b e1
  have R2_tb := RepR.ext R1_tb e1
  have l_v_wa := T_wa.r.len
  simp only [List.length_cons, List.length_nil, Nat.reduceAdd] at l_v_wa
  have q_v_wa := T_wa.r.one
  have t_v_wa := take_len l_v_wa
  have S1 := e1.2
  simp -implicitDefEqProofs only [go_sem, ldc_get G2_b_a, l_a, q_a, t_a, l_v_wa, q_v_wa, t_v_wa, S1]
  refine AC_of (toStringS_ac (R2_b).1 hsm) ?_
  rintro v_wb x2 - ⟨e2, f_wb⟩
  have T_wb := rep1 f_wb
  have nn_wb_b_a := RepF.new T_wb |>.ne G2_b_a
  have D_a_wb := DjL.of (RepR.known R2_a) (RepF.new T_wb)
  have D_b_wb := DjL.of (RepR.known R2_b) (RepF.new T_wb)
  have D_tb_wb := DjL.of (RepR.known R2_tb) (RepF.new T_wb)
  have D_wa_wb := DjL.of (RepR.known T_wa.r) (RepF.new T_wb)
  have G3_b_a := e2.2.g b_a _ G2_b_a
  have R3_a := RepR.ext R2_a e2
  have R3_b := RepR.ext R2_b e2
  have R3_tb := RepR.ext R2_tb e2
  have R3_wa := RepR.ext T_wa.r e2
  have F3_wa := RepF.ext T_wa e2
  have S2 := Sub.trans S1 e2.2
  simp -implicitDefEqProofs only [go_sem, ldc_get G3_b_a, l_a, q_a, t_a, l_v_wa, q_v_wa, t_v_wa, S1, S2]
  refine (specPackageFits_pc F3_wa.r (T_wb.r).1 sm hsm).use ?_
  simp -implicitDefEqProofs only [go_sem, ldc_get G3_b_a, l_a, q_a, t_a, l_v_wa, q_v_wa, t_v_wa, S1, S2]
  refine AC_of (toPackage_ac R3_a sm) ?_
  rintro _ x3 - ⟨e3, v_xa, rfl, T_xa⟩
  have nn_xa_b_a := RepF.new T_xa |>.ne G3_b_a
  have D_a_xa := DjL.of (RepR.known R3_a) (RepF.new T_xa)
  have D_b_xa := DjL.of (RepR.known R3_b) (RepF.new T_xa)
  have D_tb_xa := DjL.of (RepR.known R3_tb) (RepF.new T_xa)
  have G4_b_a := e3.2.g b_a _ G3_b_a
  have R4_a := RepR.ext R3_a e3
  have R4_b := RepR.ext R3_b e3
  have R4_tb := RepR.ext R3_tb e3
  have l_v_xa := T_xa.r.len
  simp only [List.length_cons, List.length_nil, Nat.reduceAdd] at l_v_xa
  have q_v_xa := T_xa.r.one
  have t_v_xa := take_len l_v_xa
  simp -implicitDefEqProofs only [go_sem, ldc_get G4_b_a, l_a, q_a, t_a, l_v_wa, q_v_wa, t_v_wa, l_v_xa, q_v_xa, t_v_xa]
  intro b_xa hb_b_xa n_b_xa
  have z_b_a_b_xa : (b_a = b_xa) = False := eq_false fun e => by subst e; rw [G4_b_a] at n_b_xa; cases n_b_xa
  have nn_xa_b_xa := T_xa.r.known.ne n_b_xa
  have E_b_xa := (Ext.refl x3).set n_b_xa ⟨v_xa, 3⟩
  simp -implicitDefEqProofs only [go_sem, hb_b_xa, ldc_get G4_b_a, z_b_a_b_xa, l_a, q_a, t_a, l_v_wa, q_v_wa, t_v_wa, l_v_xa, q_v_xa, t_v_xa]
  have G5_b_a := E_b_xa.2.g b_a _ G4_b_a
  have R5_a := RepR.ext R4_a E_b_xa
  have R5_b := RepR.ext R4_b E_b_xa
  have R5_tb := RepR.ext R4_tb E_b_xa
  have R5_xa := RepR.ext T_xa.r E_b_xa
  have F5_xa := RepF.ext T_xa E_b_xa
  have G5_b_xa : (x3.set b_xa ⟨v_xa, 3⟩).get b_xa = some ⟨v_xa, 3⟩ := H.set_get_same _ _ _
  refine AC_of (toStringS_ac (R5_b).1 hsm) ?_
  rintro v_xb x4 - ⟨e4, f_xb⟩
  have T_xb := rep1 f_xb
  have nn_xb_b_a := RepF.new T_xb |>.ne G5_b_a
  have nn_xb_b_xa := RepF.new T_xb |>.ne G5_b_xa
  have D_a_xb := DjL.of (RepR.known R5_a) (RepF.new T_xb)
  have D_b_xb := DjL.of (RepR.known R5_b) (RepF.new T_xb)
  have D_tb_xb := DjL.of (RepR.known R5_tb) (RepF.new T_xb)
  have D_xa_xb := DjL.of (RepR.known F5_xa.r) (RepF.new T_xb)
  have G6_b_a := e4.2.g b_a _ G5_b_a
  have G6_b_xa := e4.2.g b_xa _ G5_b_xa
  have R6_a := RepR.ext R5_a e4
  have R6_b := RepR.ext R5_b e4
  have R6_tb := RepR.ext R5_tb e4
  have R6_xa := RepR.ext F5_xa.r e4
  have F6_xa := RepF.ext F5_xa e4
  simp -implicitDefEqProofs only [go_sem, ldc_get G6_b_a, ldc_get G6_b_xa, z_b_a_b_xa, l_a, q_a, t_a, l_v_wa, q_v_wa, t_v_wa, l_v_xa, q_v_xa, t_v_xa]
  refine (implPackageFits_pc R6_tb F6_xa.r (T_xb.r).1 sm hsm).use ?_
  simp -implicitDefEqProofs only [go_sem, ldc_get G6_b_a, ldc_get G6_b_xa, z_b_a_b_xa, l_a, q_a, t_a, l_v_wa, q_v_wa, t_v_wa, l_v_xa, q_v_xa, t_v_xa]
  refine AC_of (toPackage_ac R6_a sm) ?_
  rintro _ x5 - ⟨e5, v_ya, rfl, T_ya⟩
  have G7_b_a := e5.2.g b_a _ G6_b_a
  have G7_b_xa := e5.2.g b_xa _ G6_b_xa
  have R7_a := RepR.ext R6_a e5
  have R7_b := RepR.ext R6_b e5
  have R7_tb := RepR.ext R6_tb e5
  have R7_xa := RepR.ext F6_xa.r e5
  have R7_xb := RepR.ext T_xb.r e5
  have F7_xa := RepF.ext F6_xa e5
  have F7_xb := RepF.ext T_xb e5
  simp -implicitDefEqProofs only [go_sem, e5.2, ldc_get G7_b_a, ldc_get G7_b_xa, z_b_a_b_xa, l_a, q_a, t_a, l_v_wa, q_v_wa, t_v_wa, l_v_xa, q_v_xa, t_v_xa]
  refine (eqPackage_pc F7_xa.r T_ya.r ok1.2.2.1).use ?_
  simp -implicitDefEqProofs only [go_sem, e5.2, ldc_get G7_b_a, ldc_get G7_b_xa, z_b_a_b_xa, l_a, q_a, t_a, l_v_wa, q_v_wa, t_v_wa, l_v_xa, q_v_xa, t_v_xa]
  refine AC_of (toStringS_ac (R7_b).1 hsm) ?_
  rintro v_yb x6 - ⟨e6, f_yb⟩
  have T_yb := rep1 f_yb
  have G8_b_a := e6.2.g b_a _ G7_b_a
  have G8_b_xa := e6.2.g b_xa _ G7_b_xa
  have R8_a := RepR.ext R7_a e6
  have R8_b := RepR.ext R7_b e6
  have R8_tb := RepR.ext R7_tb e6
  have R8_xa := RepR.ext F7_xa.r e6
  have R8_xb := RepR.ext F7_xb.r e6
  have F8_xa := RepF.ext F7_xa e6
  have F8_xb := RepF.ext F7_xb e6
  simp -implicitDefEqProofs only [go_sem, e6.2, ldc_get G8_b_a, ldc_get G8_b_xa, z_b_a_b_xa, l_a, q_a, t_a, l_v_wa, q_v_wa, t_v_wa, l_v_xa, q_v_xa, t_v_xa]
  refine (eqStringS_pc (F8_xb.r).1 (T_yb.r).1 n1).use ?_
  simp -implicitDefEqProofs only [go_sem, e6.2, ldc_get G8_b_a, ldc_get G8_b_xa, z_b_a_b_xa, l_a, q_a, t_a, l_v_wa, q_v_wa, t_v_wa, l_v_xa, q_v_xa, t_v_xa]
theorem packageFits_law (h : H) (tb : Tabs h) (args : List Value) (ha : okAs h [.agg [.f (.int .i64), .f .str, .sl [.int .i64, .int .i64, .int .i64, .str]], .one (.sl [.str])] args) : AC Tryd.prog 3 args h fun r _ => r = .bool true := by
  obtain ⟨v, _, rfl, ⟨cs, rfl, q0⟩, a0⟩ := okAs_cons ha
  obtain ⟨v2, _, rfl, ⟨rows2, hs2, hf2, hn2⟩, a1⟩ := okAs_cons a0
  obtain rfl := okAs_nil a1
  obtain ⟨p, r, k⟩ := package_of q0
  obtain ⟨l, rfl, hok2⟩ := strs_of rows2 hf2
  exact packageFits_walk tb r k ⟨hs2, trivial⟩ (by simpa using hn2) hok2
section
open Go.ChangeShapes Go.WideShapes Go.ChangeAt Go.RowKit
theorem fnExactPackageFits_lifted (os : Os) (started : os.Started) (H' : Type) (enc : TypeId × Value → H') : ReturnsInHanded {} Tryd.checked os 3 .any (fun w args => (Rows.fnExactPackageFitsSpec.pre enc Tryd.prog Tryd.f3 [] false w args ∧ laidMetH Tryd.prog laidL w) ∧ sizedMet enc Tryd.prog Tryd.f3 (OpenSpec.ofChange Rows.fnExactPackageFitsSpec) false w args) (Rows.fnExactPackageFitsSpec.post enc Tryd.prog Tryd.f3 false true false false) :=
  law_row_laid (Ck := Tryd.checked) Tabs [.agg [.f (.int .i64), .f .str, .sl [.int .i64, .int .i64, .int .i64, .str]], .one (.sl [.str])] (by kernel_rfl) started (by kernel_rfl) Tryd.func3
    (ChangeSpec.witness_shaped (enc := enc) (C := Tryd.checked) (os := os) (X := fun w _ => laidMetH Tryd.prog laidL w) false (World.doorLaid Tryd.prog 400 os) #[.agg #[.int .i64 0, .string ByteArray.empty, .slice none 0 0], .slice none 0 0] 8 rfl (World.shaped_of_RefB (by kernel_rfl) (by kernel_rfl)) (by kernel_rfl) (by kernel_rfl) (by kernel_rfl) (door_met os _))
    (by kernel_rfl) (by kernel_rfl) rfl (by kernel_rfl : Tryd.prog.underlying (Tryd.f3.resultTypes.getD 0 0) = some .bool) (by kernel_rfl)
    (fun ds gs hd hg => by
      rw [show Tryd.f3.params.toList.length = 2 by kernel_rfl] at hd
      match ds, hd, gs, hg with
      | [_, _], _, [_, _], _ => rfl)
    (by kernel_rfl) (fun W h => tabs_of h) packageFits_law
theorem fnExactPackageFits_said : Rows.FnExactPackageFitsSaid :=
  OpenClaim.holds_of_wide 3 Tryd.f3 rfl rfl rfl rfl rfl rfl rfl ⟨rfl, rfl, rfl, rfl, rfl⟩ rfl rfl rfl rfl rfl (by kernel_rfl) Tryd.func3 (by kernel_rfl)
    (of_decide_eq_true (by kernel_rfl)) (by unfold Func.isWrapper; first | (rw [if_pos (by decide +kernel)]; kernel_rfl) | (rw [if_neg (by decide +kernel)]; exact ⟨rfl, rfl⟩))
    (fun os started H' enc _ => fnExactPackageFits_lifted os started H' enc)
theorem fnExactPackageFits_holds : Rows.FnExactPackageFitsCardSaid :=
  Claim7.holds_tied_plain_at .later [] [.data, .data] true (true, "db163364eda8b6200613916752bf66abd661c5963afb8b120aa4017dd54e81d0") false
    fnExactPackageFits_said (fun _ h => by cases h) (by kernel_rfl) (fun _ h => by cases h) fnExactPackageFits_row_tie rfl ⟨rfl, rfl⟩ (by kernel_rfl) rfl
    (fun f fn hf hfn => by
      obtain rfl : f = 3 := Option.some.inj ((show Tryd.prog.funcNamed "loop.example/g00668/laws.FnExactPackageFits" = some 3 by kernel_rfl).symm.trans hf) |>.symm
      obtain rfl : fn = Tryd.f3 := (Option.some.inj (Tryd.func3.symm.trans hfn)).symm
      exact ⟨by kernel_rfl, fun j t ht => by
        have hm : t ∈ Tryd.f3.params.toList := by simpa using Array.mem_of_getElem? ht
        have hall : (Tryd.f3.params.toList.all fun u => !Tryd.prog.wantsStandIn u) = true := by kernel_rfl
        exact (show Tryd.prog.wantsStandIn t = false by simpa using List.all_eq_true.1 hall t hm)⟩)
    (by kernel_rfl)
end
end Go.Proofs.YtdofcojbjcpikaaDoor
