/- A helper of this seat's claims (the logic of the walks): what it shows is shown for every input that its statements name, on no other condition. -/
import Derived.Test.YtpponffjeilhmaaK3
set_option linter.unusedVariables false
set_option linter.unusedSimpArgs false
namespace Go.KH
open Go.RowKit

section
variable {P : Program}

theorem run_b2s {h : H} {w : World} (hh : Has h w) : ∀ (x : Value) {v : Value}, ((asR x).bind fun p => if p.2.2 = 0 then some (str []) else (ldc h p.1 p.2.1 p.2.2).bind fun cs => (bytesOf cs).bind fun r => some (str r)) = some v →
    (Conv.bytesToString x).run P w = .ok v w := by
  intro x v hv
  simp only [Option.bind_eq_some_iff] at hv
  obtain ⟨p, hp, hv⟩ := hv
  have loop : ∀ (f : Value → ByteArray → Sem (ForInStep ByteArray)) (hf : ∀ n s, f (.int .u8 n) s = pure (.yield (s.push (UInt8.ofNat n.toNat)))) (cs : List Value) (r : List UInt8) (s : ByteArray), bytesOf cs = some r →
      (forIn (m := Sem) cs.toArray s f).run P w = .ok ⟨(bl s ++ r).toArray⟩ w := by
    intro f hf cs
    induction cs with
    | nil => intro r s hr; simp only [bytesOf, Option.some.injEq] at hr; subst hr; simp [bl]
    | cons c cs ih =>
      intro r s hr
      unfold bytesOf at hr
      split at hr
      · cases ‹c :: cs = []›
      · rename_i n l heq
        obtain ⟨rfl, rfl⟩ := List.cons.inj heq
        simp only [Option.map_eq_some_iff] at hr
        obtain ⟨r', hr', rfl⟩ := hr
        have := ih r' (s.push (UInt8.ofNat n.toNat)) hr'
        simp only [List.forIn_toArray, List.forIn_cons, Sem.run_bind, Sem.run_pure, Result.andThen_ok, hf] at this ⊢
        rw [this]
        congr 2
        simp [bl, ByteArray.push]
      · cases hr
  rcases asR_some hp with ⟨c, rfl⟩ | ⟨a, c, rfl, h0⟩
  · unfold Conv.bytesToString
    split at hv
    · rename_i h0
      simp only [Option.some.injEq] at hv; subst hv
      have h1 : (loadCells ⟨p.1, p.2.1, none⟩ 0).run P w = .ok #[] w := by simp [loadCells, loadCellsFrom]
      simp only [sl, h0, Sem.run_bind, h1, Result.andThen_ok]
      simp [str]
      rfl
    · simp only [Option.bind_eq_some_iff] at hv
      obtain ⟨cs, hcs, r, hr, hv⟩ := hv
      simp only [Option.some.injEq] at hv; subst hv
      simp only [sl, Sem.run_bind, run_ldc hh hcs, Result.andThen_ok]
      rw [loop _ (fun n s => rfl) cs r ByteArray.empty hr]
      simp [str, bl, Sem.run_pure]
  · unfold Conv.bytesToString
    simp only [h0, if_true, Option.some.injEq] at hv
    subst hv
    cases a with
    | none => simp [str]; rfl
    | some a =>
      have h1 : (loadCells a 0).run P w = .ok #[] w := by simp [loadCells, loadCellsFrom]
      simp only [Sem.run_bind, h1, Result.andThen_ok]
      simp [str]
      rfl

theorem cellsOf_eq {t : TypeId} {i : TypeInfo} (h : P.info? t = some i) : P.cellsOf t = i.size := by simp [Program.cellsOf, h]
theorem info_of_underlying {t : TypeId} {d : TypeDesc} (h : P.underlying t = some d) : ∃ i, P.info? t = some i := by
  unfold Program.underlying at h
  cases hi : P.info? t with
  | none => rw [hi] at h; cases h
  | some i => exact ⟨i, rfl⟩

theorem leafEq_cells {k : LK} {a b : Value} {r : Bool} (h : cellsEq [k] a.cells.toList b.cells.toList = some r) (ha : ∀ x, a ≠ .agg x) (hb : ∀ x, b ≠ .agg x) : leafEq k a b = some r := by
  have e1 : a.cells.toList = [a] := by cases a <;> simp_all [Value.cells]
  have e2 : b.cells.toList = [b] := by cases b <;> simp_all [Value.cells]
  rw [e1, e2] at h
  simp only [cellsEq, Option.bind_eq_some_iff] at h
  obtain ⟨t, ht, h⟩ := h
  rw [ht]
  cases t <;> simp_all

theorem cellsEq_append : ∀ (m p : List LK) (u1 u2 v1 v2 : List Value), u1.length = m.length → u2.length = m.length →
    cellsEq (m ++ p) (u1 ++ v1) (u2 ++ v2) = (cellsEq m u1 u2).bind fun t => if t then cellsEq p v1 v2 else some false
  | [], p, [], [], v1, v2, _, _ => by simp [cellsEq]
  | k :: m, p, a :: u1, b :: u2, v1, v2, h1, h2 => by
    simp only [List.cons_append, cellsEq]
    cases leafEq k a b with
    | none => rfl
    | some t =>
      cases t
      · simp
      · simp [cellsEq_append m p u1 u2 v1 v2 (by simpa using h1) (by simpa using h2)]

/-- A value that is of the shape of its type: an aggregate or one cell. -/
def Shp (P : Program) (t : TypeId) (a : Value) : Prop := ∃ d, P.underlying t = some d ∧ if isAggD d then ∃ x, a = .agg x else ∀ x, a ≠ .agg x

theorem eqFields_run (w : World) (d n : Nat)
    (ih : ∀ (t : TypeId) (pl : List LK), flatEq P d t = some pl → pl.length = P.cellsOf t ∧ ∀ (a b : Value) (r : Bool), Shp P t a → Shp P t b → a.cells.size = pl.length → b.cells.size = pl.length →
      (∀ v ∈ a.cells.toList ++ b.cells.toList, ∀ z, v ≠ .agg z) → cellsEq pl a.cells.toList b.cells.toList = some r → (Op.equalIn n t a b).run P w = .ok r w) (hleaf : ∀ t pl, flatEq P d t = some pl → ∃ D, P.underlying t = some D ∧ (isAggD D = false → pl.length = 1) ∧ ∀ x, x ∈ pl → True)
    (hcell : ∀ (t : TypeId) (pl : List LK) (D : TypeDesc), flatEq P d t = some pl → P.underlying t = some D → isAggD D = false → ∃ k, pl = [k])
    (x y : List Value) (body : Field → (Option Bool × Unit) → Sem (ForInStep (Option Bool × Unit)))
    (hb : ∀ f s, f.name ≠ "_" → body f s = (do
        let u ← part f.type x.toArray f.offset
        let v ← part f.type y.toArray f.offset
        let e ← Op.equalIn n f.type u v
        if (!e) = true then pure (ForInStep.done (some false, ())) else pure (ForInStep.yield (none, ()))))
    (hone : ∀ v ∈ x ++ y, ∀ z, v ≠ .agg z) :
    ∀ (fl : List Field) (off : Nat) (pl : List LK) (r : Bool), eqFields P (flatEq P d) fl off = some pl → x.length = off + pl.length → y.length = off + pl.length →
      cellsEq pl (x.drop off) (y.drop off) = some r → (forIn (m := Sem) fl (none, ()) body).run P w = .ok (if r then (none, ()) else (some false, ())) w
  | [], off, pl, r, h, hx, hy, hr => by
    simp only [eqFields, Option.some.injEq] at h; subst h
    have e1 : x.drop off = [] := by simp; simp at hx; omega
    have e2 : y.drop off = [] := by simp; simp at hy; omega
    rw [e1, e2] at hr
    simp only [cellsEq, Option.some.injEq] at hr; subst hr
    simp
  | f :: fl, off, pl, r, h, hx, hy, hr => by
    unfold eqFields at h
    split at h
    · rename_i hc
      obtain ⟨hn, ho, hi⟩ := hc
      simp only [Option.bind_eq_some_iff, Option.map_eq_some_iff] at h
      obtain ⟨m, hm, p, hp, rfl⟩ := h
      obtain ⟨hlen, hev⟩ := ih f.type m hm
      obtain ⟨i, hi⟩ := Option.isSome_iff_exists.1 hi
      obtain ⟨D, hD, _, _⟩ := hleaf f.type m hm
      have hsz : i.size = m.length := by rw [hlen, cellsOf_eq hi]
      simp only [List.length_append] at hx hy
      have mk : ∀ (z : List Value), z.length = off + (m.length + p.length) → (∀ v ∈ z, ∀ q, v ≠ .agg q) → ∃ v, (part f.type z.toArray f.offset).run P w = .ok v w ∧ v.cells.toList = (z.drop off).take m.length ∧ Shp P f.type v := by
        intro z hz ho1
        by_cases hA : isAggD D = true
        · refine ⟨.agg ((z.drop off).take m.length).toArray, run_part' hi hD z _ w (by rw [if_pos hA, ho, hsz]), by simp [Value.cells], D, hD, by rw [if_pos hA]; exact ⟨_, rfl⟩⟩
        · have hA : isAggD D = false := by simpa using hA
          obtain ⟨k, rfl⟩ := hcell f.type m D hm hD hA
          have hlt : off < z.length := by simp at hz; omega
          refine ⟨z[off], run_part' hi hD z _ w (by rw [if_neg (by simp [hA]), ho]; simp [hlt]), ?_, D, hD, by rw [if_neg (by simp [hA])]; exact ho1 _ (List.getElem_mem hlt)⟩
          have hv := ho1 z[off] (List.getElem_mem hlt)
          have : z[off].cells.toList = [z[off]] := by
            generalize z[off] = v at hv
            cases v <;> first | rfl | (exact absurd rfl (hv _))
          rw [this]
          rw [List.drop_eq_getElem_cons hlt]; rfl
      obtain ⟨u, hu1, hu2, hu3⟩ := mk x hx (fun v hv => hone v (List.mem_append_left _ hv))
      obtain ⟨v, hv1, hv2, hv3⟩ := mk y hy (fun v hv => hone v (List.mem_append_right _ hv))
      have hsp : ∀ z : List Value, z.drop off = (z.drop off).take m.length ++ z.drop (off + m.length) := fun z => by
        rw [← List.drop_drop]; exact (List.take_append_drop _ _).symm
      rw [hsp x, hsp y, cellsEq_append _ _ _ _ _ _ (by simp; omega) (by simp; omega)] at hr
      simp only [Option.bind_eq_some_iff] at hr
      obtain ⟨q, hq, hr⟩ := hr
      have hul : u.cells.size = m.length := by rw [← Array.length_toList, hu2]; simp; omega
      have hvl : v.cells.size = m.length := by rw [← Array.length_toList, hv2]; simp; omega
      have heq := hev u v q hu3 hv3 hul hvl (by
        intro c hc z
        rw [hu2, hv2] at hc
        rcases List.mem_append.1 hc with hc | hc
        · exact hone c (List.mem_append_left _ (List.mem_of_mem_drop (List.mem_of_mem_take hc))) z
        · exact hone c (List.mem_append_right _ (List.mem_of_mem_drop (List.mem_of_mem_take hc))) z) (by rw [hu2, hv2]; exact hq)
      rw [List.forIn_cons, hb f _ hn]
      simp only [Sem.run_bind, hu1, hv1, heq, Result.andThen_ok]
      cases q
      · simp only [Bool.false_eq_true, if_false, Option.some.injEq] at hr; subst hr
        simp
      · simp only [if_true] at hr
        have := eqFields_run w d n ih hleaf hcell x y body hb hone fl (off + m.length) p r hp (by omega) (by omega) hr
        simp only [Bool.not_true, Bool.false_eq_true, if_false, Sem.run_pure, Result.andThen_ok, this]
    · cases h

theorem flatEq_under {d : Nat} {t : TypeId} {pl : List LK} (h : flatEq P d t = some pl) : ∃ D, P.underlying t = some D ∧ pl.length = P.cellsOf t ∧ (isAggD D = false → ∃ k, pl = [k]) := by
  cases d with
  | zero => simp [flatEq] at h
  | succ d =>
    unfold flatEq at h
    split at h
    · rename_i k hu; split at h
      · rename_i hc; simp only [Option.some.injEq] at h; subst h; exact ⟨_, hu, hc.symm, fun _ => ⟨_, rfl⟩⟩
      · cases h
    · rename_i hu; split at h
      · rename_i hc; simp only [Option.some.injEq] at h; subst h; exact ⟨_, hu, hc.symm, fun _ => ⟨_, rfl⟩⟩
      · cases h
    · rename_i hu; split at h
      · rename_i hc; simp only [Option.some.injEq] at h; subst h; exact ⟨_, hu, hc.symm, fun _ => ⟨_, rfl⟩⟩
      · cases h
    · rename_i fs hu; split at h
      · cases h
      · simp only [Option.bind_eq_some_iff] at h
        obtain ⟨q, hq, h⟩ := h
        split at h
        · rename_i hc; simp only [Option.some.injEq] at h; subst h; exact ⟨_, hu, hc.symm, fun hA => by simp [isAggD] at hA⟩
        · cases h
    · cases h

theorem run_eqFlat (w : World) : ∀ (d n : Nat) (t : TypeId) (pl : List LK), d ≤ n → flatEq P d t = some pl → ∀ (a b : Value) (r : Bool), Shp P t a → Shp P t b → a.cells.size = pl.length → b.cells.size = pl.length →
      (∀ v ∈ a.cells.toList ++ b.cells.toList, ∀ z, v ≠ .agg z) → cellsEq pl a.cells.toList b.cells.toList = some r → (Op.equalIn n t a b).run P w = .ok r w
  | 0, _, _, _, _, h => by simp [flatEq] at h
  | d + 1, n, t, pl, hn, h => by
    obtain ⟨n, rfl⟩ : ∃ m, n = m + 1 := ⟨n - 1, by omega⟩
    intro a b r ha hb hal hbl hone hr
    obtain ⟨D, hD, ha⟩ := ha
    obtain ⟨D', hD', hb⟩ := hb
    obtain rfl : D = D' := by rw [hD] at hD'; exact Option.some.inj hD'
    have h0 := h
    unfold flatEq at h
    split at h
    case h_1 k hu =>
      obtain rfl : D = .int k := by rw [hD] at hu; exact Option.some.inj hu
      split at h
      · simp only [Option.some.injEq] at h; subst h
        have := leafEq_cells hr (by simpa [isAggD] using ha) (by simpa [isAggD] using hb)
        unfold leafEq at this
        split at this <;> first | (cases this; done) | skip
        · split at this
          · rename_i hk; subst hk
            simp only [Option.some.injEq] at this; subst this
            exact run_eqInt n w hu
          · cases this
        all_goals simp_all
      · cases h
    case h_2 hu =>
      obtain rfl : D = .string := by rw [hD] at hu; exact Option.some.inj hu
      split at h
      · simp only [Option.some.injEq] at h; subst h
        have := leafEq_cells hr (by simpa [isAggD] using ha) (by simpa [isAggD] using hb)
        unfold leafEq at this
        split at this <;> first | (cases this; done) | skip
        · simp_all
        · simp only [Option.some.injEq] at this; subst this
          exact run_eqStr n w hu
        all_goals simp_all
      · cases h
    case h_3 hu =>
      obtain rfl : D = .bool := by rw [hD] at hu; exact Option.some.inj hu
      split at h
      · simp only [Option.some.injEq] at h; subst h
        have := leafEq_cells hr (by simpa [isAggD] using ha) (by simpa [isAggD] using hb)
        unfold leafEq at this
        split at this <;> first | (cases this; done) | skip
        · simp_all
        · simp_all
        · simp only [Option.some.injEq] at this; subst this
          exact run_eqBool n w hu
      · cases h
    case h_4 fs hu =>
      obtain rfl : D = .struct fs := by rw [hD] at hu; exact Option.some.inj hu
      split at h
      · cases h
      · rename_i hs
        simp only [Option.bind_eq_some_iff] at h
        obtain ⟨q, hq, h⟩ := h
        split at h
        · simp only [Option.some.injEq] at h; subst h
          simp only [isAggD, if_true] at ha hb
          obtain ⟨x, rfl⟩ := ha
          obtain ⟨y, rfl⟩ := hb
          have hs' : P.stoodInHeld t = false := by simpa using hs
          simp only [Op.equalIn, Sem.run_bind, run_underlying hu, Result.andThen_ok, run_program, hs', if_false, Bool.false_eq_true]
          simp only [Value.cells] at hal hbl hone hr
          have key := eqFields_run w d n (x := x.toList) (y := y.toList)
            (fun t pl hf => ⟨(flatEq_under hf).choose_spec.2.1, fun a b r sa sb la lb ho hc => run_eqFlat w d n t pl (by omega) hf a b r sa sb la lb ho hc⟩)
            (fun t pl hf => by obtain ⟨D, h1, h2, h3⟩ := flatEq_under hf; exact ⟨D, h1, fun hA => by obtain ⟨k, rfl⟩ := h3 hA; rfl, fun _ _ => trivial⟩)
            (fun t pl D hf hu hA => by obtain ⟨D', h1, h2, h3⟩ := flatEq_under hf; rw [hu] at h1; obtain rfl := Option.some.inj h1; exact h3 hA)
            (fun f (__s : Option Bool × Unit) => if f.name ≠ "_" then do
              let u ← part f.type x f.offset
              let v ← part f.type y f.offset
              let e ← Op.equalIn n f.type u v
              if (!e) = true then pure (ForInStep.done (some false, ())) else pure (ForInStep.yield (none, ()))
            else pure (ForInStep.yield (none, ()))) (fun f s hn => if_pos hn) hone fs.toList 0 q r hq (by simpa using hal) (by simpa using hbl) (by simpa using hr)
          have e : ∀ (b : Field → (Option Bool × Unit) → Sem (ForInStep (Option Bool × Unit))), forIn (m := Sem) fs (none, ()) b = forIn (m := Sem) fs.toList (none, ()) b := fun b => by simp
          rw [e]
          refine Eq.trans (congrArg (fun z => Result.andThen z _) (Eq.trans ?_ key)) ?_
          · rfl
          · cases r <;> rfl
        · cases h
    case h_5 => cases h
end
end Go.KH
