/- A helper of this seat's claims (contracts of the functions): what it shows is shown for every input that its statements name, on no other condition. -/
import Derived.Test.YtiokibikhanfcaaGreatC01
import Derived.Test.YtiokibikhanfcaaGreatC06
set_option linter.unusedVariables false
set_option linter.unusedSimpArgs false
set_option maxRecDepth 100000
namespace Go.Proofs.YtiokibikhanfcaaGreat
open Go.KH

/-! ## Notes -/
def noteB (n at_ : Int) (data : List UInt8) : List UInt8 := sealB (putNum n ++ putNum at_ ++ putText data)
def noteBytes (n at_ : Int) (data : List UInt8) : List UInt8 := if (0 ≤ n ∧ n ≤ 1000000) ∧ (0 ≤ at_ ∧ at_ ≤ 39) ∧ data.length = 8 then noteB n at_ data else []
theorem putText_le {t : List UInt8} (h : t.length ≤ 1099511627776) : (putText t).length ≤ t.length + 10 := by
  have := putNum_le (n := (t.length : Int)) ⟨by omega, by omega⟩
  unfold putText; rw [List.length_append]; omega
/-- spec.NoteBytes -/
def b_spec_NoteBytes : C := (.seq (.ops [q 6 (.mv (.c (str [])))])
 (.seq (.seq (.ops [q 7 (.mv (.t 0)), ⟨(some 8), none, .call (.c (.func (.func 76) #[] #[])) [(.t 7), (.c (i64 0)), (.c (i64 1000000))]⟩, q 9 (.un .not (.t 8)), q 10 (.mv (.t 9)), qg 11 10 false (.mv (.t 1)), ⟨(some 12), (some (10, false)), .call (.c (.func (.func 76) #[] #[])) [(.t 11), (.c (i64 0)), (.c (i64 39))]⟩, qg 13 10 false (.un .not (.t 12)), q 14 (.pick (.t 10) (.c (.bool true)) (.t 13)), q 15 (.mv (.t 14)), qg 16 15 false (.mv (.t 2)), qg 17 15 false (.slen (.t 16)), qg 18 15 false (.bin .neq (.t 17) (.c (i64 8))), q 19 (.pick (.t 15) (.c (.bool true)) (.t 18))])
 (.cond (.t 19) (.seq (.ops [q 6 (.mv (.c (str [])))])
 .ret) .skip))
 (.seq (.ops [q 20 (.mv (.t 0)), ⟨(some 21), none, .call (.c (.func (.func 215) #[] #[])) [(.t 20)]⟩, q 22 (.mv (.t 1)), ⟨(some 23), none, .call (.c (.func (.func 215) #[] #[])) [(.t 22)]⟩, q 24 (.bin .add (.t 21) (.t 23)), q 25 (.mv (.t 2)), ⟨(some 26), none, .call (.c (.func (.func 217) #[] #[])) [(.t 25)]⟩, q 27 (.bin .add (.t 24) (.t 26)), ⟨(some 28), none, .call (.c (.func (.func 220) #[] #[])) [(.t 27)]⟩, q 6 (.mv (.t 28))])
 .ret)))
theorem w_spec_NoteBytes {args : List Value} {h : H} {Q : Value → H → Prop} (hl : args.length ≤ 29) (hk : wpc Tryz.prog b_spec_NoteBytes (retw [.tmp 6] Q) (argsFr args) h) : AC Tryz.prog 177 args h Q :=
  AC.of_wpc mixedOrders Tryz.func177 (by kernel_rfl) (by kernel_rfl : prepF Tryz.prog Tryz.f177 = some ⟨29, [.tmp 6], b_spec_NoteBytes⟩) hl hk

theorem specNoteBytes_pc (h : H) (n at_ : Int) (data : List UInt8) (hn : in64 n) (ha : in64 at_) : PC Tryz.prog 177 [i64 n, i64 at_, str data] h (str (noteBytes n at_ data)) := by
  have l1 := putNum_le hn
  have l2 := putNum_le ha
  refine w_spec_NoteBytes (by simp) ?_
  unfold b_spec_NoteBytes
  simp -implicitDefEqProofs only [go_sem]
  refine (l03Is_pc _ _ _ _).use ?_
  simp -implicitDefEqProofs only [go_sem]
  unfold noteBytes
  refine Br.of (fun h1 => ?_) (fun h1 => ?_)
  · simp -implicitDefEqProofs only [go_sem, h1]
    refine (l03Is_pc _ _ _ _).use ?_
    simp -implicitDefEqProofs only [go_sem, h1]
    refine Br.of (fun h2 => ?_) (fun h2 => ?_)
    · simp -implicitDefEqProofs only [go_sem, h1, h2]
      refine Br.of (fun h3 => ?_) (fun h3 => ?_)
      · simp -implicitDefEqProofs only [go_sem, h1, h2, h3]
        have l3 := putText_le (t := data) (by omega)
        refine (specPutNum_pc _ _ hn).use ?_
        simp -implicitDefEqProofs only [go_sem]
        refine (specPutNum_pc _ _ ha).use ?_
        simp -implicitDefEqProofs only [go_sem]
        refine Req.of (by omega) ?_
        simp -implicitDefEqProofs only [go_sem]
        refine (specPutText_pc _ _ (by omega)).use ?_
        simp -implicitDefEqProofs only [go_sem]
        refine Req.of (by simp only [List.length_append]; omega) ?_
        simp -implicitDefEqProofs only [go_sem]
        refine (specSeal_pc _ _ (by simp only [List.length_append]; omega)).use ?_
        simp -implicitDefEqProofs only [go_sem]
        rw [if_pos (by omega)]; rfl
      · simp -implicitDefEqProofs only [go_sem, h1, h2, h3]
        rw [if_neg (by omega)]
    · simp -implicitDefEqProofs only [go_sem, h1, h2]
  · simp -implicitDefEqProofs only [go_sem, h1]
end Go.Proofs.YtiokibikhanfcaaGreat
