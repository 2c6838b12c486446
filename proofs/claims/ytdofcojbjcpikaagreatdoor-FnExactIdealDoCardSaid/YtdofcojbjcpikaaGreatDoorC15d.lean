/- A helper of this seat's claims (contracts of the functions): what it shows is shown for every input that its statements name, on no other condition. -/
import Derived.Test.YtdofcojbjcpikaaGreatDoorC15b
import Derived.Test.YtdofcojbjcpikaaGreatDoorMCE
import Derived.Test.YtdofcojbjcpikaaGreatDoorC14a
import Derived.Test.YtdofcojbjcpikaaGreatDoorCZd
set_option linter.unusedVariables false
set_option linter.unusedSimpArgs false
set_option maxRecDepth 100000
namespace Go.Proofs.YtdofcojbjcpikaaGreatDoor
open Go.KH

/-! ## What a command does to an ideal -/
def freeI (i : UIdeal) : Int := 24 - i.held - i.need - i.stash
def codeI (i : UIdeal) (n : Int) : UIdealOut := ⟨i, [], [], n⟩
noncomputable def finI (i : UIdeal) : Int :=
  if (i.steps.length : Int) ≠ i.need then 4 else if shaL (applyB i.base i.steps).flatten ≠ i.digest then 5 else if i.stash < slots (idealMv i) then 11 else 0
noncomputable def doI (i : UIdeal) (c : UCmd) : UIdealOut :=
  if c.kind = 1 then (if i.phase ≠ 1 then codeI i 10 else if 24 < c.a + c.b + i.held then codeI i 11 else codeI { i with phase := 2, need := c.a, stash := c.b, digest := c.digest } 0)
  else if c.kind = 2 then (if i.phase ≠ 2 then codeI i 10 else if (i.steps.length : Int) = i.need then codeI i 9 else if codeOf (i.steps ++ [c.step]) i.base.length ≠ 0 then codeI i (codeOf (i.steps ++ [c.step]) i.base.length) else codeI { i with steps := i.steps ++ [c.step] } 0)
  else if c.kind = 3 then (if i.phase ≠ 2 then codeI i 10 else if finI i ≠ 0 then codeI (idleOf i) (finI i) else codeI { i with phase := 3 } 0)
  else if c.kind = 4 then (if i.phase = 1 ∨ i.phase = 5 then codeI i 10 else codeI (idleOf i) 0)
  else if c.kind = 5 then (if i.phase ≠ 4 then codeI i 10 else codeI { i with base := applyB i.base i.steps, phase := 5, tries := 0, left := (idealMv i).length } 0)
  else if c.kind = 6 then (if i.phase ≠ 5 then codeI i 10 else if i.left = 0 then ⟨idleOf i, [], [0], 0⟩ else ⟨{ i with left := i.left - 1 }, [], [i.left - 1], 0⟩)
  else if c.kind = 7 then (if (i.base.length : Int) ≤ c.a then codeI i 8 else ⟨i, at8 (idealView i) c.a, [], 0⟩)
  else if c.kind = 8 then ⟨i, [], [i.phase, i.tries, i.steps.length, kept i.steps, i.left, freeI i], 0⟩
  else if c.kind = 9 then (if freeI i < c.a then codeI i 11 else codeI { i with held := i.held + c.a } 0)
  else if c.kind = 10 then codeI { i with held := 0 } 0
  else codeI (bootOf i) 0
/-- An ideal of the call's own in a box. -/
structure BoxI (h0 h : H) (b : Nat) (i : UIdeal) (vb vs : Value) : Prop where
  e : Ext h0 h
  nb : h0.get b = none
  g : h.get b = some ⟨i.cells vb vs, 9⟩
  hb : h.base ≤ b
  f1 : Fre h0 h vb 1 (strs i.base)
  f2 : Own h0 h vs 4 (i.steps.map UStep.cells)
  d : Dj vb vs
  n1 : blk vb ≠ some b
  n2 : ob vs ≠ some b
theorem BoxI.ext {h0 h h' : H} {b : Nat} {i : UIdeal} {vb vs : Value} (k : BoxI h0 h b i vb vs) (e : Ext h h') : BoxI h0 h' b i vb vs :=
  ⟨k.e.trans e, k.nb, e.2.g _ _ k.g, by rw [e.1]; exact k.hb, k.f1.ext e, k.f2.ext e, k.d, k.n1, k.n2⟩
theorem BoxI.rep {h0 h : H} {b : Nat} {i : UIdeal} {vb vs : Value} (k : BoxI h0 h b i vb vs) : RepF h0 h (spIdeal i) (i.cells vb vs) := ideal_f.2 ⟨vb, vs, rfl, k.f1, k.f2.fre, k.d⟩
theorem BoxI.put {h0 h : H} {b : Nat} {i : UIdeal} {vb vs : Value} (k : BoxI h0 h b i vb vs) (j : UIdeal) (hb : j.base = i.base) (hs : j.steps = i.steps) : BoxI h0 (h.set b ⟨j.cells vb vs, 9⟩) b j vb vs :=
  ⟨k.e.set' k.nb _, k.nb, H.set_get_same _ _ _, by rw [H.set_base]; exact k.hb, by rw [hb]; exact Fre.setNe k.f1 k.n1 _, by rw [hs]; exact k.f2.setOb k.n2 _, k.d, k.n1, k.n2⟩
theorem BoxI.idle {h0 h : H} {b : Nat} {i : UIdeal} {vb vs : Value} (k : BoxI h0 h b i vb vs) : BoxI h0 (h.set b ⟨(idleOf i).cells vb nils, 9⟩) b (idleOf i) vb nils :=
  ⟨k.e.set' k.nb _, k.nb, H.set_get_same _ _ _, by rw [H.set_base]; exact k.hb, Fre.setNe k.f1 k.n1 _, .inl ⟨rfl, rfl⟩, (fun _ _ h => by cases h), k.n1, (fun h => by cases h)⟩
/-- What a command leaves: its text, its reply, its code; the ideal in its box. -/
def DoneI (h0 : H) (b : Nat) (o : UIdealOut) (r : Value) (h' : H) : Prop :=
  Ext h0 h' ∧ ∃ cs' vr, r = .tuple #[str o.text, vr, i64 o.code] ∧ h'.get b = some ⟨cs', 9⟩ ∧ RepF h0 h' (spIdealOut o) (cs' ++ [str o.text, vr, i64 o.code])
theorem DoneI.of {h0 h' : H} {b : Nat} {o : UIdealOut} {cs' : List Value} {vr : Value} (e : Ext h0 h') (g : h'.get b = some ⟨cs', 9⟩) (f : RepF h0 h' (spIdeal o.ideal) cs') (fr : Fre h0 h' vr 1 (ints o.reply)) (dj : ∀ x, blks cs' x → blk vr ≠ some x) :
    DoneI h0 b o (.tuple #[str o.text, vr, i64 o.code]) h' := by
  refine ⟨e, cs', vr, rfl, g, ?_⟩
  obtain ⟨vb, vs, rfl, f1, f2, d⟩ := ideal_f.1 f
  exact idealOut_f.2 ⟨vb, vs, vr, rfl, f1, f2, fr, d, fun x h1 h2 => dj x (ideal_blks.2 (.inl h1)) h2, fun x h1 h2 => dj x (ideal_blks.2 (.inr h1)) h2⟩
theorem DoneI.code {h0 h' : H} {b : Nat} {i : UIdeal} {n : Int} {cs' : List Value} (e : Ext h0 h') (g : h'.get b = some ⟨cs', 9⟩) (f : RepF h0 h' (spIdeal i) cs') : DoneI h0 b (codeI i n) (.tuple #[str [], nils, i64 n]) h' :=
  DoneI.of (o := codeI i n) e g f (.inl ⟨none, 0, rfl, rfl⟩) fun _ _ h => by cases h
theorem BoxI.done {h0 h : H} {b : Nat} {i : UIdeal} {vb vs : Value} {n : Int} (k : BoxI h0 h b i vb vs) : DoneI h0 b (codeI i n) (.tuple #[str [], nils, i64 n]) h := DoneI.code k.e k.g k.rep
/-- (*impl.Ideal).free -/
def b_impl_Ideal_free : C := (.seq (.ops [q 2 (.mv (.c (i64 0)))])
 (.seq (.dops true (.tk (q 3 (.mv (.t 0))) (.tk (q 4 (.nck (.t 3))) (.tk (q 5 (.fld 4 (.t 4))) (.tk (q 6 (.ld false 1 (.t 5))) (.tk (q 7 (.bin .sub (.c (i64 24)) (.t 6))) (.tk (q 8 (.mv (.t 0))) (.tk (q 9 (.nck (.t 8))) (.tk (q 10 (.fld 2 (.t 9))) (.tk (q 11 (.ld false 1 (.t 10))) (.tk (q 12 (.bin .sub (.t 7) (.t 11))) (.tk (q 13 (.mv (.t 0))) (.tk (q 14 (.nck (.t 13))) (.tk (q 15 (.fld 3 (.t 14))) (.tk (q 16 (.ld false 1 (.t 15))) (.tk (q 17 (.bin .sub (.t 12) (.t 16))) (.tk (q 2 (.mv (.t 17))) .nil)))))))))))))))))
 .ret))
theorem w_impl_Ideal_free {args : List Value} {h : H} {Q : Value → H → Prop} (hl : args.length ≤ 18) (hk : wpc Tryz.prog b_impl_Ideal_free (retw [.tmp 2] Q) (argsFr args) h) : AC Tryz.prog 140 args h Q :=
  AC.of_wpc mixedOrders Tryz.func140 (by kernel_rfl) (by kernel_rfl : prepF Tryz.prog Tryz.f140 = some ⟨18, [.tmp 2], b_impl_Ideal_free⟩) hl hk

theorem free_pc {h : H} {b : Nat} {i : UIdeal} {vb vs : Value} (hg : h.get b = some ⟨i.cells vb vs, 9⟩) (hr : (0 ≤ i.held ∧ i.held ≤ 24) ∧ (0 ≤ i.need ∧ i.need ≤ 20) ∧ (0 ≤ i.stash ∧ i.stash ≤ 4)) : PC Tryz.prog 140 [ptr b 0] h (i64 (freeI i)) := by
  refine PC_of ?_
  unfold freeI
  refine w_impl_Ideal_free (by simp) ?_
  unfold b_impl_Ideal_free
  simp -implicitDefEqProofs only [go_sem, ldc_get hg, wrap_i64 (show -(9223372036854775808 : Int) ≤ (24 - i.held) by omega) (show (24 - i.held) < 9223372036854775808 by omega), wrap_i64 (show -(9223372036854775808 : Int) ≤ (24 - i.held - i.need) by omega) (show (24 - i.held - i.need) < 9223372036854775808 by omega), wrap_i64 (show -(9223372036854775808 : Int) ≤ (24 - i.held - i.need - i.stash) by omega) (show (24 - i.held - i.need - i.stash) < 9223372036854775808 by omega)]
  exact Ext.refl _
end Go.Proofs.YtdofcojbjcpikaaGreatDoor
