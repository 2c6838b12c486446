/- A helper of this seat's claims (the logic of the walks): what it shows is shown for every input that its statements name, on no other condition. -/
import Derived.Test.YtpponffjeilhmaaK2
set_option linter.unusedVariables false
set_option linter.unusedSimpArgs false
namespace Go.KH
open Go.RowKit

section
variable {P : Program}

theorem run_sbin {op : BinOp} {a b : ByteArray} {v : Value} (w : World) (h : sbin op (bl a) (bl b) = some v) :
    (Op.stringOp op a b).run P w = .ok v w := by
  have e : (a.toList == b.toList) = decide (bl a = bl b) := by
    rw [toList_eq, toList_eq, Bool.eq_iff_iff]; simp
  cases op <;> simp only [sbin] at h <;> try (cases h; done)
  case add =>
    split at h
    · rename_i hc
      simp only [Option.some.injEq] at h
      subst h
      have h1 : ¬ (((a.size + b.size : Nat) : Int) > IntKind.i64.max) := by
        have h2 : IntKind.i64.max = 9223372036854775807 := by decide
        rw [h2]
        rw [bl_length, bl_length] at hc
        omega
      simp only [Op.stringOp, h1, if_false, Sem.run_pure]
      congr 2
    · cases h
  case eql => simp only [Option.some.injEq] at h; subst h; simp only [Op.stringOp, e, Sem.run_pure]
  case neq => simp only [Option.some.injEq] at h; subst h; simp only [Op.stringOp, e, Sem.run_pure, decide_not]

theorem run_obin {op : BinOp} {x y v : Value} {t : TypeId} (w : World) (h : obin op x y = some v) : (binOp op t x y).run P w = .ok v w := by
  unfold obin at h
  split at h
  · simp only [shiftv] at h
    split at h
    · cases h
    · rename_i hb
      simp only [Option.some.injEq] at h; subst h
      simp [binOp, Op.shift, hb]
  · simp only [shiftv] at h
    split at h
    · cases h
    · rename_i hb
      simp only [Option.some.injEq] at h; subst h
      simp [binOp, Op.shift, hb]
  · rename_i h1 h2
    split at h
    · rename_i hk; subst hk
      exact run_ibin w (fun e => by subst e; simp at h1) (fun e => by subst e; simp at h2) h t
    · cases h
  · cases op <;> first | exact run_sbin w h | (simp [sbin] at h; done)
  · cases h

theorem run_eqGuard {op : BinOp} {t : TypeId} {x y : Operand} {a b : Value} (w : World) (h : ∀ c, a ≠ .agg c) (h' : a ≠ .nilIface) : (eqGuard op t x y a b).run P w = .ok () w := by
  unfold eqGuard
  cases a <;> simp_all <;> (split <;> simp)

theorem run_eqInt {t : TypeId} {k' k : IntKind} {a b : Int} (n : Nat) (w : World) (hd : P.underlying t = some (.int k')) : (Op.equalIn (n + 1) t (.int k a) (.int k b)).run P w = .ok (decide (a = b)) w := by
  have : (a == b) = decide (a = b) := by rw [Bool.eq_iff_iff]; simp
  simp [Op.equalIn, run_underlying hd, this]
theorem run_eqStr {t : TypeId} {a b : ByteArray} (n : Nat) (w : World) (hd : P.underlying t = some .string) : (Op.equalIn (n + 1) t (.string a) (.string b)).run P w = .ok (decide (bl a = bl b)) w := by
  have := run_equalIn_string w n t a b hd
  rw [this]; congr 1
  rw [toList_eq, toList_eq, Bool.eq_iff_iff]; simp
theorem run_eqBool {t : TypeId} {a b : Bool} (n : Nat) (w : World) (hd : P.underlying t = some .bool) : (Op.equalIn (n + 1) t (.bool a) (.bool b)).run P w = .ok (decide (a = b)) w := by
  simp only [Op.equalIn, Sem.run_bind, run_underlying hd, Result.andThen_ok, Sem.run_pure]
  congr 1
theorem run_eqNil {t e : TypeId} {a b : Value} {r : Bool} (w : World) (hd : P.underlying t = some (.slice e)) (h : oeqs a b = some r) : (Op.equal t a b).run P w = .ok r w := by
  have key : ∀ n, (Op.equalIn (n + 1) t a b).run P w = .ok r w := by
    intro n
    unfold oeqs at h
    split at h
    · simp only [Option.some.injEq] at h; subst h
      simp [Op.equalIn, run_underlying hd]
    · simp only [Option.some.injEq] at h; subst h
      simp [Op.equalIn, run_underlying hd]
    · cases h
  exact key 9999

theorem run_oun {op : UnOp} {x v : Value} (w : World) (h : oun op x = some v) : (Op.unary op x).run P w = .ok v w := by
  unfold oun at h
  split at h <;> first | (simp only [Option.some.injEq] at h; subst h; simp [Op.unary, Op.intArith, Op.intBits]) | cases h

theorem fill_of {place : Nat → Option (Nat × Nat)} : ∀ (ps : List (Nat × Value)) (qs : List (Nat × Nat × Value)) (cells : List Value) (r : List Value),
    fillL cells qs = some r → qs.length = ps.length → (∀ (j : Nat) (p : Nat × Value) (q : Nat × Nat × Value), ps[j]? = some p → qs[j]? = some q → q.2.2 = p.2 ∧ place p.1 = some (q.1, q.2.1)) →
    Instr.fill place cells.toArray ps = some r.toArray
  | [], [], cells, r, h, _, _ => by simp [fillL] at h; subst h; rfl
  | [], _ :: _, _, _, _, hl, _ => by simp at hl
  | _ :: _, [], _, _, _, hl, _ => by simp at hl
  | (i, v) :: ps, (off, size, u) :: qs, cells, r, h, hl, hp => by
    obtain ⟨h1, h2⟩ := hp 0 (i, v) (off, size, u) rfl rfl
    simp only at h1 h2
    subst h1
    unfold fillL at h
    split at h
    · rename_i hc
      unfold Instr.fill
      simp only [h2]
      have e1 : ¬ (u.cells.size ≠ size || decide (off + u.cells.size > cells.toArray.size)) = true := by
        simp at hc ⊢; omega
      rw [if_neg e1]
      have e2 : ∀ (cs : List Value) (k : Nat) (acc : List Value), off + k + cs.length ≤ acc.length →
          (cs.zipIdx k).foldl (fun cs (x : Value × Nat) => cs.setIfInBounds (off + x.2) x.1) acc.toArray = (acc.take (off + k) ++ cs ++ acc.drop (off + k + cs.length)).toArray := by
        intro cs
        induction cs with
        | nil => intro k acc _; simp
        | cons c cs ih =>
          intro k acc hle
          simp only [List.zipIdx_cons, List.foldl_cons, List.length_cons] at hle ⊢
          rw [show (acc.toArray.setIfInBounds (off + k) c) = (acc.set (off + k) c).toArray from by simp]
          rw [ih (k + 1) (acc.set (off + k) c) (by simp; omega)]
          congr 1
          rw [List.take_set, List.drop_set, if_pos (by omega)]
          have : (List.take (off + (k + 1)) acc).set (off + k) c = List.take (off + k) acc ++ [c] := by
            rw [show off + (k + 1) = off + k + 1 by omega, List.take_succ_eq_append_getElem (by omega)]
            rw [List.set_append_right _ _ (by simp; omega)]
            simp; rw [Nat.min_eq_left (by omega)]; simp
          rw [this]
          simp [show off + (k + 1) + cs.length = off + k + (cs.length + 1) by omega]
      have e3 := e2 u.cells.toList 0 cells (by simp at hc ⊢; omega)
      have e4 : Array.foldl (fun cs (x : Value × Nat) => cs.setIfInBounds (off + x.2) x.1) cells.toArray u.cells.zipIdx = (splice cells off u.cells.toList).toArray := by
        rw [← Array.foldl_toList]
        simp only [Array.toList_zipIdx]
        simpa [splice] using e3
      have := fill_of ps qs (splice cells off u.cells.toList) r h (by simpa using hl) (fun j p q hj hq => hp (j + 1) p q hj hq)
      rw [← this]
      congr 1
    · cases h
end
end Go.KH
