/- A helper of this seat's claims (the logic of the walks): what it shows is shown for every input that its statements name, on no other condition. -/
import Derived.Test.YtpponffjeilhmaaK7
import Derived.Laws.Append
import Derived.IntWalk
set_option linter.unusedVariables false
set_option linter.unusedSimpArgs false
namespace Go.KH
open Go.RowKit

section
variable {P : Program}

theorem wrap_i64 {n : Int} (h1 : -9223372036854775808 ≤ n) (h2 : n < 9223372036854775808) : IntKind.i64.wrap n = n := IntWalk.i64_in n ⟨h1, by omega⟩

theorem modify_push (xs : Array Obj) (a : Obj) (f : Obj → Obj) : (xs.push a).modify xs.size f = xs.push (f a) := by
  apply Array.ext_getElem?
  intro i
  simp only [Array.getElem?_modify, Array.getElem?_push]
  by_cases h : i = xs.size
  · subst h; simp
  · have h' : ¬ xs.size = i := fun e => h e.symm
    simp only [h, h', if_false]

theorem withO_elim {α : Type} {o : Option α} {K : α → Prop} (h : withO o K) : ∃ a, o = some a ∧ K a := h

theorem prepO_cases {o : Oper} {oo : O} (hp : prepO P o = some oo) : (∃ po, prepP P o = some po ∧ oo = .p po) ∨ (prepP P o = none ∧ prepO P o = some oo) := by
  cases h : prepP P o with
  | some po => left; unfold prepO at hp; rw [h] at hp; exact ⟨po, rfl, (Option.some.inj hp).symm⟩
  | none => exact .inr ⟨rfl, hp⟩

theorem zeroCells_size (z : Array Value) (n : Nat) : (Builtin.zeroCells z n).size = n * z.size := by simp [Builtin.zeroCells]

theorem range_zero (z : List Value) (n : Nat) (hz : z ≠ []) : ((Array.range (n * z.length)).map fun i => z.toArray[i % z.toArray.size]!) = (List.replicate n z).flatten.toArray := by
  rw [← Array.toList_inj]
  have hl : 0 < z.length := List.length_pos_iff.2 hz
  apply List.ext_getElem
  · simp
  · intro i h1 h2
    simp only [Array.toList_map, Array.toList_range, List.getElem_map, List.getElem_range, List.size_toArray]
    have hi : i < n * z.length := by simpa using h1
    have hm : i % z.length < z.length := Nat.mod_lt _ hl
    have e1 : z.toArray[i % z.length]! = z[i % z.length] := by simp [hm]
    have key : ∀ (n i : Nat) (h : i < (List.replicate n z).flatten.length), (List.replicate n z).flatten[i] = z[i % z.length]'(Nat.mod_lt _ hl) := by
      intro n
      induction n with
      | zero => intro i h; simp at h
      | succ n ih =>
        intro i h
        simp only [List.replicate_succ, List.flatten_cons]
        by_cases hlt : i < z.length
        · rw [List.getElem_append_left hlt]; simp [Nat.mod_eq_of_lt hlt]
        · rw [List.getElem_append_right (by omega), ih]
          congr 1
          exact (Nat.mod_eq_sub_mod (by omega)).symm
    rw [key n i (by simpa using h2)]
    simpa using e1

theorem run_buildSlice {w0 w : World} {h : H} (r : Rel w0 h w) {t e : TypeId} {i : TypeInfo} {z : Value} (hu : P.underlying t = some (.slice e)) (hi : P.info? e = some i) (hz : i.zero = some z)
    (len : Nat) (hc : ¬ (len * i.size > 16777216 ∨ z.cells.size ≠ i.size ∨ i.size = 0)) (ps : Array (Nat × Value)) (cs : List Value)
    (hf : fillL (List.replicate len z.cells.toList).flatten (ps.toList.map fun p => (p.1 * i.size, i.size, p.2)) = some cs) :
    (Instr.buildSlice t len ps).run P w = .ok (sl w.heap.size 0 len len) { w with heap := w.heap.push (.cells cs.toArray e (0, 0)) } := by
  have h1 : ¬ len * i.size > 2 ^ 24 := by omega
  have hsz : z.cells.size = i.size := by omega
  have hz0 : i.size ≠ 0 := by omega
  have hfill : Instr.fill (fun k => some (k * i.size, i.size)) (List.replicate len z.cells.toList).flatten.toArray ps.toList = some cs.toArray := by
    refine fill_of _ _ _ _ hf (by simp) ?_
    intro j p q hj hq
    simp only [List.getElem?_map, Option.map_eq_some_iff] at hq
    obtain ⟨q0, hq0, rfl⟩ := hq
    rw [hj] at hq0; obtain rfl := Option.some.inj hq0
    exact ⟨rfl, rfl⟩
  unfold Instr.buildSlice
  simp only [Sem.run_bind, run_underlying hu, Result.andThen_ok, run_sizeOf' hi, h1, if_false]
  by_cases hl : len * i.size = 0
  · have hl0 : len = 0 := by rcases Nat.mul_eq_zero.1 hl with h | h; exact h; exact absurd h hz0
    subst hl0
    simp only [hl, if_true, Sem.run_pure, Result.andThen_ok]
    have : (Array.map (fun x => (#[] : Array Value)[x % (#[] : Array Value).size]!) (Array.range 0)) = (List.replicate 0 z.cells.toList).flatten.toArray := by simp
    simp only [Sem.run_bind, Sem.run_pure, Result.andThen_ok, this, hfill]
    simp [newRow]
  · simp only [hl, if_false, Sem.run_bind, run_zeroValue' hi hz, Result.andThen_ok, Sem.run_pure]
    have hne : z.cells.toList ≠ [] := by
      intro h0; have : z.cells.size = 0 := by rw [← Array.length_toList, h0]; rfl
      omega
    have := range_zero z.cells.toList len hne
    simp only [Array.length_toList, hsz] at this
    rw [show z.cells.toList.toArray = z.cells from by simp] at this
    have e : (Array.map (fun x => z.cells[x % z.cells.size]!) (Array.range (len * i.size))) = (List.replicate len z.cells.toList).flatten.toArray := by rw [← this, hsz]
    rw [e, hfill]
    simp [newRow]

theorem run_newVar {w : World} (t : TypeId) (v : Value) : (newVar t v).run P w = .ok ⟨w.heap.size, 0, none⟩ { w with heap := w.heap.push (.cells v.cells t (0, 0)) } := by
  simp [newVar, newRow]

theorem resolve_value {ρ : Operand → Value} {c : Call} {f : Operand} (ty : TypeId) (h : c.callee = .value f) {n : Nat} {a b : List Value} (hf : asFn (ρ f) = some (n, a, b)) :
    resolve ρ c ty = pure { target := .fn (.func n) b.toArray, args := a.toArray ++ c.args.map ρ } := by
  have : ρ f = .func (.func n) a.toArray b.toArray := by
    unfold asFn at hf; split at hf
    · rename_i e; simp only [Option.some.injEq, Prod.mk.injEq] at hf; obtain ⟨rfl, rfl, rfl⟩ := hf; rw [e]
    · cases hf
  unfold resolve; rw [h]; simp only [this, Deferred.ofValue]

theorem mfind_le (k : IntKind) (n : Int) : ∀ (l : List (Value × Value)) (s i : Nat) (v : Value), mfind k n l s = some (some (i, v)) → s ≤ i
  | [], s, i, v, h => by simp [mfind] at h
  | (key, val) :: l, s, i, v, h => by
    cases key with
    | int k' m =>
      simp only [mfind] at h
      split at h
      · split at h
        · simp only [Option.some.injEq, Prod.mk.injEq] at h; omega
        · have := mfind_le k n l (s + 1) i v h; omega
      · cases h
    | _ => simp [mfind] at h

theorem mfind_get (k : IntKind) (n : Int) : ∀ (es : List MapEntry) (s i : Nat) (v : Value), mfind k n (es.map fun e => (e.key, e.val)) s = some (some (i, v)) → ∃ e, es[i - s]? = some e ∧ e.key = .int k n
  | [], s, i, v, h => by simp [mfind] at h
  | ⟨key, val, born⟩ :: es, s, i, v, h => by
    simp only [List.map_cons] at h
    cases key with
    | int k' m =>
      simp only [mfind] at h
      split at h
      · rename_i hk; subst hk
        split at h
        · rename_i hm; subst hm
          simp only [Option.some.injEq, Prod.mk.injEq] at h
          obtain ⟨rfl, _⟩ := h
          exact ⟨⟨.int k' m, val, born⟩, by simp, rfl⟩
        · obtain ⟨e, he, hk⟩ := mfind_get k' n es (s + 1) i v h
          have hle : s + 1 ≤ i := mfind_le k' n _ _ _ _ h
          refine ⟨e, ?_, hk⟩
          rw [show i - s = (i - (s + 1)) + 1 by omega, List.getElem?_cons_succ]; exact he
      · cases h
    | _ => simp [mfind] at h

theorem ldc_take {h : H} {b o n m : Nat} {cs : List Value} (hl : ldc h b o n = some cs) (hm : m ≤ n) : ldc h b o m = some (cs.take m) := by
  unfold ldc at hl ⊢
  split at hl
  · split at hl
    · simp only [Option.some.injEq] at hl; subst hl
      rw [if_pos (by omega), List.take_take, Nat.min_eq_left hm]
    · cases hl
  · cases hl

theorem run_srcOf_take {h : H} {w : World} (hh : Has h w) {wd : Nat} {x : Value} {n : Nat} {cs : List Value} (hx : srcOf h wd x = some (n, cs)) (hl : cs.length = n * wd) {m : Nat} (hm : m ≤ n) :
    (Builtin.firstCells wd m x).run P w = .ok (cs.take (m * wd)).toArray w := by
  unfold srcOf at hx
  split at hx
  · rename_i s
    simp only [Option.some.injEq, Prod.mk.injEq] at hx
    obtain ⟨rfl, rfl⟩ := hx
    simp only [u8s, List.length_map] at hl
    have hmw : m * wd = m ∨ (bl s).length = 0 := by
      rcases Nat.eq_zero_or_pos (bl s).length with h0 | h0
      · exact .inr h0
      · left
        have : wd = 1 := by
          have := Nat.eq_of_mul_eq_mul_left h0 (show (bl s).length * 1 = (bl s).length * wd by omega)
          exact this.symm
        rw [this, Nat.mul_one]
    simp only [Builtin.firstCells, Sem.run_pure]
    congr 1
    rw [← Array.toList_inj]
    have e : (s.extract 0 m).data.toList = (bl s).take m := by simp [bl, ByteArray.data_extract, List.extract_eq_take_drop]
    simp only [Array.toList_map, e, u8s]
    rcases hmw with h0 | h0
    · rw [h0, List.map_take]
    · have : bl s = [] := List.length_eq_zero_iff.1 h0
      simp [this]
  · simp only [Option.some.injEq, Prod.mk.injEq] at hx
    obtain ⟨rfl, rfl⟩ := hx
    rename_i a c
    obtain rfl : m = 0 := by omega
    cases a <;> simp [Builtin.firstCells, loadCells, loadCellsFrom]
  · simp only [Option.bind_eq_some_iff, Option.some.injEq, Prod.mk.injEq] at hx
    obtain ⟨cs', hc, rfl, rfl⟩ := hx
    simp only [Builtin.firstCells]
    exact run_ldc hh (ldc_take hc (Nat.mul_le_mul_right _ hm))
  · cases hx

theorem owp_sound {o : Oper} {oo : O} (hp : prepO P o = some oo) {a : Act} {N : Nat} {f : Fr} (hf : FrR N f a.tmps) {w0 w : World} {h : H} (r : Rel w0 h w)
    {K : Value → H → Prop} (hK : owp P (ev f) h K oo) {next : Act → World → Prop} {Q : Exit → Act → World → Prop}
    (hn : ∀ v h' w', h'.base = h.base → Rel w0 h' w' → K v h' → next (a.put o.dst v) w') : o.wp P a w next Q := by
  have hρ : ∀ x, a.eval x = ev f (px x) := fun x => hf.eval x
  have hmap : ∀ (l : List Operand), (l.map px).map (ev f) = l.map a.eval := fun l => by simp [hρ]
  rcases prepO_cases hp with ⟨po, hpo, rfl⟩ | ⟨hnone, hp⟩
  · obtain ⟨v, hv, hk⟩ := hK
    have := run_prepP hpo hρ r.has hv
    unfold Oper.wp
    rw [this]
    exact hn v h w rfl r hk
  unfold prepO at hp
  rw [hnone] at hp
  simp only at hp
  have push : ∀ (c : Array Value) (T : TypeId) (v : Value), K v (h.set w.heap.size ⟨c.toList, c.size⟩) → next (a.put o.dst v) { w with heap := w.heap.push (.cells c T (0, 0)) } := fun c T v hk =>
    hn v (h.set w.heap.size ⟨c.toList, c.size⟩) _ rfl (r.push c T (0, 0) (fun i _ => by simp) c.toList (List.prefix_refl _)) hk
  unfold Oper.wp
  split at hp
  case h_1 t x hop => -- box
    simp only [Option.some.injEq] at hp; subst hp
    have hk := hK w.heap.size r.fresh.1 r.fresh.2
    simp only [vcl] at hk
    simp only [execOp, hop, Instr.box, hρ, Sem.run_bind, run_newVar, Result.andThen_ok, Sem.run_pure, Oper.upon_value]
    exact push _ _ _ (by simpa using hk)
  case h_2 t hop => -- alloc
    simp only [Option.bind_eq_some_iff, Option.some.injEq] at hp
    obtain ⟨i, hi, z, hz, rfl⟩ := hp
    have hk := hK w.heap.size r.fresh.1 r.fresh.2
    simp only [execOp, hop, Instr.alloc, Sem.run_bind, run_zeroValue' hi hz, run_newVar, Result.andThen_ok, Sem.run_pure, Oper.upon_value]
    exact push _ _ _ (by simpa using hk)
  case h_3 t len parts hop => -- buildSlice
    split at hp
    · rename_i e hu
      simp only [Option.bind_eq_some_iff] at hp
      obtain ⟨i, hi, z, hz, hp⟩ := hp
      split at hp
      · cases hp
      · rename_i hc
        simp only [Option.some.injEq] at hp; subst hp
        obtain ⟨cs, hcs, hk⟩ := hK
        have hk := hk w.heap.size r.fresh.1 r.fresh.2
        have hb := run_buildSlice r hu hi hz len hc (parts.map fun (i, x) => (i, a.eval x)) cs (by
          rw [← hcs]; congr 1; simp [hρ])
        simp only [execOp, hop, Sem.run_bind, hb, Result.andThen_ok, Sem.run_pure, Oper.upon_value]
        exact push _ _ _ (by simpa using hk)
    · cases hp
  case h_4 t x y hop => -- store
    simp only [Option.bind_eq_some_iff, Option.some.injEq] at hp
    obtain ⟨i, hi, rfl⟩ := hp
    obtain ⟨p, hp, hb, h', hst, hk⟩ := hK
    simp only [stc, Option.bind_eq_some_iff] at hst
    obtain ⟨ob, hob, hst⟩ := hst
    split at hst
    · rename_i hc
      have hc : (ev f (px y)).cells.toList.length = i.size ∧ p.snd + i.size ≤ ob.cells.length ∧ (ev f (px y)).cells.toList.all Value.oneCell' = true := hc
      simp only [Option.some.injEq] at hst; subst hst
      have hsz : ob.cells.length ≤ ob.size := by
        obtain ⟨c, T, fz, g1, ⟨t', g2⟩, g3⟩ := r.obs p.1 ob hob
        rw [← (g3 hb).1, ← Array.length_toList, ← g2]; simp
      obtain ⟨w', h1, h2⟩ := Rel.setN (P := P) (ev f (px y)).cells.toList p.2 0 w h ob r hob hb (by omega) (by omega) hc.2.2
      simp only [Nat.add_zero] at h2
      have hsc : (ev f (px y)).cells.size = i.size := by rw [← Array.length_toList]; exact hc.1
      simp only [execOp, hop, Instr.storeAt, hρ, asP_some hp, Instr.sureAddr, Sem.run_bind, Sem.run_pure, Result.andThen_ok, storeVar, run_sizeOf' hi, hsc, ne_eq, not_true, if_false, ptr, h1, Oper.upon_skip]
      exact hn undef (h.set p.1 ⟨splice ob.cells p.2 (ev f (px y)).cells.toList, ob.size⟩) w' rfl h2 hk
    · cases hst
  case h_5 t l c hop => -- makeSlice
    split at hp
    · rename_i e hu
      simp only [Option.bind_eq_some_iff] at hp
      obtain ⟨i, hi, z, hz, hp⟩ := hp
      split at hp
      · cases hp
      · rename_i hc
        simp only [Option.some.injEq] at hp; subst hp
        obtain ⟨l', hl', c', hc', h0, hlc, hcb, hby, hk⟩ := hK
        have hk := hk w.heap.size r.fresh.1 r.fresh.2
        have hl0 : l'.2 < 9223372036854775808 := by omega
        have wr : ∀ n : Int, 0 ≤ n → n < 1099511627776 → IntKind.i64.wrap n = n := fun n h1 h2 => wrap_i64 (by omega) (by omega)
        have e1 := wr l'.2 h0 (by omega)
        have e2 := wr c'.2 (by omega) hcb
        have hsz : z.cells.size = i.size := by omega
        have hne : z.cells.toList ≠ [] := by
          intro h0; have : z.cells.size = 0 := by rw [← Array.length_toList, h0]; rfl
          omega
        have hb : ¬ ((i.bytes : Int) * c'.2 > 2 ^ 48) := by omega
        have g1 : (decide (c'.2 < 0) || decide ((i.bytes : Int) * c'.2 > 2 ^ 48) || decide (l'.2 < 0) || decide (l'.2 > c'.2)) = false := by
          simp only [Bool.or_eq_false_iff, decide_eq_false_iff_not]; refine ⟨⟨⟨?_, ?_⟩, ?_⟩, ?_⟩ <;> omega
        have hcells : ((Array.range (c'.2.toNat * i.size)).map fun j => z.cells[j % z.cells.size]!) = (List.replicate c'.2.toNat z.cells.toList).flatten.toArray := by
          have := range_zero z.cells.toList c'.2.toNat hne
          simp only [Array.length_toList, hsz] at this
          rw [show z.cells.toList.toArray = z.cells from by simp] at this
          rw [← this, hsz]
        have hrun : (Instr.makeSlice t (a.eval l) (a.eval c)).run P w = .ok (sl w.heap.size 0 l'.2.toNat c'.2.toNat) { w with heap := w.heap.push (.cells (List.replicate c'.2.toNat z.cells.toList).flatten.toArray e (0, 0)) } := by
          unfold Instr.makeSlice
          simp only [hρ, asI_some hl', asI_some hc', Sem.run_bind, run_underlying hu, Result.andThen_ok, run_asInt, run_typeInfo' hi, e1, e2, g1, Bool.false_eq_true, if_false, run_askRoom, run_sizeOf' hi, Sem.run_pure]
          by_cases hn0 : c'.2.toNat * i.size = 0
          · have hc0 : c'.2.toNat = 0 := by rcases Nat.mul_eq_zero.1 hn0 with h | h; exact h; omega
            have e0 : (Array.map (fun j => (#[] : Array Value)[j % (#[] : Array Value).size]!) (Array.range 0)) = (List.replicate 0 z.cells.toList).flatten.toArray := by simp
            simp only [hn0, if_true, Sem.run_pure, Result.andThen_ok, hc0, e0]
            simp [newRow, show Array.range 0 = #[] from rfl]
          · simp only [hn0, if_false, Sem.run_bind, run_zeroValue' hi hz, Result.andThen_ok, Sem.run_pure, hcells]
            simp [newRow]
        simp only [execOp, hop, Sem.run_bind, hrun, Result.andThen_ok, Sem.run_pure, Oper.upon_value]
        refine push (List.replicate c'.2.toNat z.cells.toList).flatten.toArray e _ ?_
        have hlen : ∀ (n : Nat) (l : List Value), (List.replicate n l).flatten.length = n * l.length := fun n l => by induction n <;> simp_all [List.replicate_succ, Nat.succ_mul, Nat.add_comm]
        have e5 : (List.replicate c'.2.toNat z.cells.toList).flatten.toArray.size = c'.2.toNat * i.size := by
          have : (List.replicate c'.2.toNat z.cells.toList).flatten.toArray.size = (List.replicate c'.2.toNat z.cells.toList).flatten.length := rfl
          rw [this, hlen, Array.length_toList, hsz]
        rw [e5]
        exact hk
    · cases hp
  case h_6 t hop => -- make a map
    split at hp
    · rename_i kt et hu
      simp only [Option.some.injEq] at hp; subst hp
      have hk := hK w.heap.size r.fresh.1 r.fresh.2 r.freshm
      simp only [execOp, hop, Option.map_none, Instr.makeMap, Sem.run_bind, run_newObj, Result.andThen_ok, Sem.run_pure, Oper.upon_value]
      exact hn _ (h.setm w.heap.size []) _ rfl r.pushm hk
    · cases hp
  case h_7 t m k x hop => -- write into a map
    split at hp
    · rename_i kt et hu
      split at hp
      · rename_i kk hkk
        simp only [Option.some.injEq] at hp; subst hp
        obtain ⟨b, hb, l, hl, q, hq, rr, hrr, hk⟩ := hK
        obtain ⟨es, clock, hes, hel⟩ := r.maps b l hl
        have hobj : (getObj b).run P w = .ok (.map es clock) w := by simp only [getObj, Sem.run, hes]
        have hfind := findNow_mfind (kk := kk) q.1 q.2 es.toList 0 rr (by rw [hel]; exact hrr)
        have hck : (Instr.checkKey false 10000 kt (.int q.1 q.2)).run P w = .ok () w := by
          show (Instr.checkKey false (9999 + 1) kt (.int q.1 q.2)).run P w = .ok () w
          unfold Instr.checkKey
          simp only [Sem.run_bind, run_underlying hkk, Result.andThen_ok]
          rfl
        have hset : ∀ es' clock', (setObj b (.map es' clock')).run P w = .ok () { w with heap := w.heap.setIfInBounds b (.map es' clock') } := fun es' clock' => by simp only [setObj, Sem.run, hes]
        simp only [execOp, hop, hρ, asM_some hb, asI_some hq, Instr.mapUpdate, Sem.run_bind, run_underlying hu, Result.andThen_ok, hobj, Sem.run_pure, hck, Instr.findKey, run_underlying hkk, hfind]
        cases rr with
        | none =>
          simp only [hset, Result.andThen_ok, Sem.run_pure, Oper.upon_skip]
          have := r.setm hl (es' := es.push { key := .int q.1 q.2, val := ev f (px x), born := clock }) (clock' := clock + 1)
          simp only [Array.toList_push, List.map_append, List.map_cons, List.map_nil, hel] at this
          exact hn undef (h.setm b (l ++ [(.int q.1 q.2, ev f (px x))])) _ rfl this hk
        | some iv =>
          obtain ⟨i, v'⟩ := iv
          obtain ⟨e, he, hkey⟩ := mfind_get q.1 q.2 es.toList 0 i v' (by rw [hel]; exact hrr)
          simp only [Nat.sub_zero] at he
          have he' : es[i]? = some e := by simpa using he
          have hkeep : (Instr.keyThatStays (((es[i]?).map (·.key)).getD (.int q.1 q.2)) (.int q.1 q.2)).run P w = .ok (.int q.1 q.2) w := by
            rw [he']; simp [Instr.keyThatStays, hkey, Instr.sameBits]
          simp only [Sem.run_bind, hkeep, hset, Result.andThen_ok, Sem.run_pure, Oper.upon_skip]
          have := r.setm hl (es' := es.modify i fun e => { e with key := .int q.1 q.2, val := ev f (px x) }) (clock' := clock)
          have e2 : (es.modify i fun e => { e with key := .int q.1 q.2, val := ev f (px x) }).toList.map (fun e => (e.key, e.val)) = l.set i (.int q.1 q.2, ev f (px x)) := by
            rw [← hel]
            apply List.ext_getElem?
            intro j
            simp only [List.getElem?_map, Array.getElem?_toList, Array.getElem?_modify, List.getElem?_set]
            by_cases hj : i = j
            · subst hj
              have : i < es.size := (Array.getElem?_eq_some_iff.1 he').1
              simp [he', this]
            · simp [hj]
          rw [e2] at this
          exact hn undef (h.setm b (l.set i (.int q.1 q.2, ev f (px x)))) _ rfl this hk
      · cases hp
    · cases hp
  case h_8 s d x hop => -- string to bytes
    split at hp
    · rename_i e hs hd
      split at hp
      · rename_i he
        simp only [Option.some.injEq] at hp; subst hp
        obtain ⟨s, hs', hk⟩ := hK
        obtain ⟨s', hs'', rfl⟩ := asS_some hs'
        have hk := hk w.heap.size r.fresh.1 r.fresh.2
        let cap := (Question.appendCap s'.size 0 e).cut (w.tape w.drawn (.appendCap s'.size 0 e))
        have hcap : s'.size ≤ cap := by simp only [cap, Question.cut]; omega
        let cells : Array Value := (s'.data.map fun b => (.int .u8 b.toNat : Value)) ++ Array.replicate (cap - s'.size) (.int .u8 0)
        have hcs : cells.size = cap := by
          simp only [cells, Array.size_append, Array.size_map, Array.size_replicate]
          have : s'.data.size = s'.size := rfl
          omega
        have hpre : u8s (bl s') <+: cells.toList := by
          refine ⟨List.replicate (cap - s'.size) (.int .u8 0), ?_⟩
          simp [cells, u8s, bl]
        have hrun : (Conv.stringToBytes e s').run P w = .ok (sl w.heap.size 0 s'.size cap) { w with heap := w.heap.push (.cells cells e (cap, cap + 1)), drawn := w.drawn + 1 } := by
          unfold Conv.stringToBytes
          simp only [Sem.run_bind, run_choose, Question.forced, Bool.false_eq_true, if_false, Result.andThen_ok, newRow, run_newObj, Sem.run_pure, markStringish, run_shape]
          have hsh : ({ w with heap := w.heap.push (.cells cells e (0, 0)), drawn := w.drawn + 1 } : World).shape? w.heap.size = some (e, cap) := by
            simp [World.shape?, hcs]
          have hgoal : (World.shape? _ w.heap.size) = some (e, cap) := hsh
          simp only [cells, cap] at hsh ⊢
          rw [hsh]
          simp only [run_freeze, Result.andThen_ok, Sem.run_pure, World.freeze]
          simp only [Nat.one_ne_zero, if_false]
          rw [modify_push]
          simp
        simp only [execOp, hop, hρ, hs'', convert, Sem.run_bind, run_underlying hs, run_underlying hd, run_underlying he, Result.andThen_ok, hrun, Sem.run_pure, Oper.upon_value]
        have r' := (r.push cells e (cap, cap + 1) (fun i hi => by omega) (u8s (bl s')) hpre).drew
        rw [hcs] at r'
        exact hn _ (h.set w.heap.size ⟨u8s (bl s'), cap⟩) _ rfl r' (hk cap hcap)
      · cases hp
    · cases hp
  case h_9 c hop =>
    split at hp
    · rename_i s x t u ts hcal hargs htys -- append
      have ha : c.args = #[s, x] := by rw [← Array.toList_inj, hargs]
      have ht : c.argTypes[0]? = some t := by rw [← Array.getElem?_toList, htys]; rfl
      have hu' : c.argTypes[1]? = some u := by rw [← Array.getElem?_toList, htys]; rfl
      obtain ⟨kc, hr⟩ := resolve_builtin (ρ := a.eval) o.type hcal
      rw [ha] at hr
      have fin : ∀ (e : TypeId) (i : TypeInfo) (z : Value) (du : TypeDesc), P.underlying t = some (.slice e) → P.underlying u = some du → (∀ k, du ≠ .int k) → P.info? e = some i → i.zero = some z → i.size ≠ 0 → i.bytes ≠ 0 → z.cells.size = i.size →
          oo = .app i.size i.bytes (px s) (px x) → o.upon P a next Q ((execOp a.eval o).run P w) := by
        intro e i z du hte hue hni hi hz hs0 hb0 hzs hoo
        subst hoo
        obtain ⟨p, hp, q, hq, hbound, hone, hql, hk⟩ := hK
        obtain ⟨base, sLen, sCap⟩ := p
        obtain ⟨n, news⟩ := q
        simp only at hbound hone hql hk
        have hsx := asL_some hp
        simp only at hsx
        have hsrc : ∀ w', Has h w' → (Builtin.lenOf (ev f (px x))).run P w' = .ok n w' ∧ (Builtin.firstCells i.size n (ev f (px x))).run P w' = .ok news.toArray w' := fun w' hw => run_srcOf (P := P) hw hq
        have hzeros : (match du with | .int _ => true | _ => false) = false := by cases du <;> first | rfl | exact absurd rfl (hni _)
        have hb1 : (sLen + n) * i.bytes ≤ 140737488355328 := by omega
        have head : ∀ (v : Value) (W : World), (Builtin.append_ c.argTypes o.type #[a.eval s, a.eval x]).run P w = .ok v W → (execOp a.eval o).run P w = .ok (.value v) W := by
          intro v W hres
          simp only [execOp, hop, Sem.run_bind, hr, Sem.run_pure, Result.andThen_ok, invoke, builtin, List.map_toArray, List.map_cons, List.map_nil, hres]
        have e0 : (#[Value.slice base sLen sCap, ev f (px x)] : Array Value)[0]? = some (.slice base sLen sCap) := rfl
        have e1 : (#[Value.slice base sLen sCap, ev f (px x)] : Array Value)[1]? = some (ev f (px x)) := rfl
        have hinPlace : ∀ (W : World), sLen + n ≤ sCap → (match base with | some b => (storeCells (b.add (sLen * i.size)) news : Sem Unit) | none => pure ()).run P w = .ok () W →
            (Builtin.append_ c.argTypes o.type #[a.eval s, a.eval x]).run P w = .ok (.slice base (sLen + n) sCap) W := by
          intro W hle hst
          unfold Builtin.append_
          simp only [ht, hu', hρ, hsx, e0, e1, Sem.run_bind, run_underlying hte, run_underlying hue, Result.andThen_ok, run_sizeOf' hi, Sem.run_pure, hzeros, Bool.false_eq_true, if_false, (hsrc w r.has).1, hle, if_true, Bool.not_false, (hsrc w r.has).2]
          cases base with
          | none => simp only [Sem.run_pure] at hst ⊢; injection hst with _ h2; subst h2; rfl
          | some b => simp only at hst ⊢; simp only [Sem.run_bind, hst, Result.andThen_ok, Sem.run_pure]
        have hgrow : ∀ (olds : List Value), ¬ sLen + n ≤ sCap → olds.length = sLen * i.size → (∀ w', Has h w' → (Builtin.firstCells i.size sLen (.slice base sLen sCap)).run P w' = .ok olds.toArray w') →
            ∃ cap, sLen + n ≤ cap ∧ ∃ cs : Array Value, cs.size = cap * i.size ∧ (olds ++ news) <+: cs.toList ∧
            (Builtin.append_ c.argTypes o.type #[a.eval s, a.eval x]).run P w = .ok (sl w.heap.size 0 (sLen + n) cap) { w with heap := w.heap.push (.cells cs e (0, 0)), drawn := w.drawn + 1 } := by
          intro olds hle hol hof
          let cap := (Question.appendCap (sLen + n) sCap e).cut (w.tape w.drawn (.appendCap (sLen + n) sCap e))
          have hcap : sLen + n ≤ cap := by simp only [cap, Question.cut]; omega
          have h63 : ¬ (((sLen + n : Nat) : Int) > IntKind.i64.max ∧ (False ∨ i.bytes = 0)) := by simp [hb0]
          have h48 : ¬ (Builtin.nextslicecap (sLen + n) sCap * i.bytes > 2 ^ 48) := by
            have := growslice_fits (need := sLen + n) (old := sCap) (bytes := i.bytes) (by omega) hb1
            omega
          have hdrew : Has h { w with drawn := w.drawn + 1 } := r.drew.has
          refine ⟨cap, hcap, olds.toArray ++ news.toArray ++ Builtin.zeroCells z.cells (cap - (sLen + n)), ?_, ?_, ?_⟩
          · simp only [Array.size_append, zeroCells_size, List.size_toArray, hol, hql, hzs]
            rw [← Nat.add_mul, ← Nat.add_mul]; congr 1; omega
          · simp
          · unfold Builtin.append_
            simp only [ht, hu', hρ, hsx, e0, e1, Sem.run_bind, run_underlying hte, run_underlying hue, Result.andThen_ok, run_sizeOf' hi, Sem.run_pure, hzeros, Bool.false_eq_true, if_false, (hsrc w r.has).1, hle, h63, run_typeInfo' hi, h48, Bool.not_false, if_true, run_choose, Question.forced, run_askRoom, hof _ hdrew, (hsrc _ hdrew).2, run_zeroValue' hi hz, Go.newRow, run_newObj]
            rfl
        by_cases hle : sLen + n ≤ sCap
        · cases base with
          | none =>
            simp only at hk
            obtain ⟨h0, hk⟩ := hk
            simp only [Prod.mk.injEq] at h0
            obtain ⟨rfl, rfl⟩ := h0
            have hn0 : n = 0 := by omega
            subst hn0
            simp only [if_true] at hk
            rw [head _ w (hinPlace w hle (by simp)), Oper.upon_value]
            exact hn nils h w rfl r hk
          | some b =>
            obtain ⟨blk, off, spot⟩ := b
            cases spot with
            | some sp => simp only at hk
            | none =>
              simp only at hk
              obtain ⟨rfl, hb, ob, hob, hl2, hk⟩ := hk
              have hmul : (sLen + n) * i.size ≤ sCap * i.size := Nat.mul_le_mul_right _ hle
              have hadd : (sLen + n) * i.size = sLen * i.size + n * i.size := Nat.add_mul _ _ _
              rcases hk with ⟨hl1, hk⟩ | ⟨-, hl3, hk⟩
              rotate_left
              · obtain ⟨W, h1, h2⟩ := Rel.setN (P := P) news (0 + sLen * i.size) 0 w h ob r hob hb (by omega) (by omega) hone
                have h1' : (match (some ⟨blk, 0, none⟩ : Option Addr) with | some b => (storeCells (b.add (sLen * i.size)) news : Sem Unit) | none => pure ()).run P w = .ok () W := by
                  simp only [addr_add]; exact h1
                rw [head _ W (hinPlace W hle h1'), Oper.upon_value]
                rw [show 0 + sLen * i.size + 0 = sLen * i.size by omega] at h2
                exact hn _ (h.set blk ⟨splice ob.cells (sLen * i.size) news, ob.size⟩) W rfl h2 hk
              obtain ⟨W, h1, h2⟩ := Rel.setN (P := P) news (0 + sLen * i.size) 0 w h ob r hob hb (by omega) (by omega) hone
              have h1' : (match (some ⟨blk, 0, none⟩ : Option Addr) with | some b => (storeCells (b.add (sLen * i.size)) news : Sem Unit) | none => pure ()).run P w = .ok () W := by
                simp only [addr_add]; exact h1
              rw [head _ W (hinPlace W hle h1'), Oper.upon_value]
              have hsp : splice ob.cells (0 + sLen * i.size + 0) news = ob.cells ++ news := by
                unfold splice
                rw [show 0 + sLen * i.size + 0 = ob.cells.length by omega, List.take_of_length_le (Nat.le_refl _), List.drop_of_length_le (by omega)]; simp
              rw [hsp] at h2
              exact hn _ (h.set blk ⟨ob.cells ++ news, ob.size⟩) W rfl h2 (hk blk sCap ob.size (.inl rfl) hb hle (by omega))
        · have relPush : ∀ (cap : Nat) (cs : Array Value) (olds : List Value), cs.size = cap * i.size → (olds ++ news) <+: cs.toList →
              Rel w0 (h.set w.heap.size ⟨olds ++ news, cap * i.size⟩) { w with heap := w.heap.push (.cells cs e (0, 0)), drawn := w.drawn + 1 } := by
            intro cap cs olds hcs hpre
            have := (r.push cs e (0, 0) (fun i _ => by simp) (olds ++ news) hpre).drew
            rw [hcs] at this
            exact this
          cases base with
          | none =>
            simp only at hk
            obtain ⟨h0, hk⟩ := hk
            simp only [Prod.mk.injEq] at h0
            obtain ⟨rfl, rfl⟩ := h0
            have hn0 : n ≠ 0 := by omega
            simp only [hn0, if_false] at hk
            obtain ⟨cap, hcap, cs, hcs, hpre, hrun⟩ := hgrow [] hle (by simp) (fun w' _ => by simp [Builtin.firstCells])
            rw [head _ _ hrun, Oper.upon_value]
            simp only [Nat.zero_add, List.nil_append] at *
            exact hn _ (h.set w.heap.size ⟨news, cap * i.size⟩) _ rfl (by simpa using relPush cap cs [] hcs (by simpa using hpre)) (hk w.heap.size r.fresh.1 r.fresh.2 cap hcap)
          | some b =>
            obtain ⟨blk, off, spot⟩ := b
            cases spot with
            | some sp => simp only at hk
            | none =>
              simp only at hk
              obtain ⟨rfl, hb, ob, hob, hl2, hk⟩ := hk
              rcases hk with ⟨hl1, hk⟩ | ⟨hl3, -, -⟩
              rotate_left
              · exact absurd hl3 hle
              have hld : ldc h blk 0 (sLen * i.size) = some ob.cells := by
                unfold ldc; rw [hob]; simp [hl1]
              obtain ⟨cap, hcap, cs, hcs, hpre, hrun⟩ := hgrow ob.cells hle hl1.symm (fun w' hw => by simp only [Builtin.firstCells]; exact run_ldc hw hld)
              rw [head _ _ hrun, Oper.upon_value]
              exact hn _ (h.set w.heap.size ⟨ob.cells ++ news, cap * i.size⟩) _ rfl (relPush cap cs ob.cells hcs hpre) (hk w.heap.size cap (cap * i.size) (.inr r.fresh.2) r.fresh.1 hcap (Nat.le_refl _))
      split at hp
      · rename_i e e' hte hue
        simp only [Option.bind_eq_some_iff] at hp
        obtain ⟨i, hi, z, hz, hp⟩ := hp
        split at hp
        · cases hp
        · rename_i hc
          have hc : i.size ≠ 0 ∧ i.bytes ≠ 0 ∧ z.cells.size = i.size := by omega
          exact fin e i z _ hte hue (by simp) hi hz hc.1 hc.2.1 hc.2.2 (Option.some.inj hp).symm
      · rename_i e hte hue
        simp only [Option.bind_eq_some_iff] at hp
        obtain ⟨i, hi, z, hz, hp⟩ := hp
        split at hp
        · rename_i hc
          refine fin e i z _ hte hue (by simp) hi hz (by omega) (by omega) (by omega) ?_
          rw [hc.1, hc.2.1]; exact (Option.some.inj hp).symm
        · cases hp
      · cases hp
    · rename_i d s t u ts hcal hargs htys -- copy
      have ha : c.args = #[d, s] := by rw [← Array.toList_inj, hargs]
      have ht : c.argTypes[0]? = some t := by rw [← Array.getElem?_toList, htys]; rfl
      obtain ⟨kc, hr⟩ := resolve_builtin (ρ := a.eval) o.type hcal
      rw [ha] at hr
      have fin : ∀ (e : TypeId) (i : TypeInfo), P.underlying t = some (.slice e) → P.info? e = some i → oo = .cpy i.size (px d) (px s) → o.upon P a next Q ((execOp a.eval o).run P w) := by
        intro e i hte hi hoo
        subst hoo
        obtain ⟨p, hp, q, hq, hql, hk⟩ := hK
        obtain ⟨base, dLen, dCap⟩ := p
        obtain ⟨n, cs⟩ := q
        have hsx := asL_some hp
        simp only at hsx hql hk
        obtain ⟨hlen, _⟩ := run_srcOf (P := P) r.has hq
        have hfirst := run_srcOf_take (P := P) r.has hq hql (m := Nat.min n dLen) (Nat.min_le_left _ _)
        have e0 : (#[Value.slice base dLen dCap, ev f (px s)] : Array Value)[0]? = some (.slice base dLen dCap) := rfl
        have e1 : (#[Value.slice base dLen dCap, ev f (px s)] : Array Value)[1]? = some (ev f (px s)) := rfl
        have hrun : ∀ W, (match base with | some b => (storeCells b (cs.take (Nat.min n dLen * i.size)) : Sem Unit) | none => pure ()).run P w = .ok () W →
            (execOp a.eval o).run P w = .ok (.value (i64 (Nat.min n dLen : Nat))) W := by
          intro W hst
          have : (Builtin.copy_ c.argTypes o.type #[a.eval d, a.eval s]).run P w = .ok (i64 (Nat.min n dLen : Nat)) W := by
            unfold Builtin.copy_
            simp only [ht, hρ, hsx, e0, e1, Sem.run_bind, run_underlying hte, Result.andThen_ok, hlen, run_sizeOf' hi, hfirst, Sem.run_pure]
            cases base with
            | none => simp only [Sem.run_pure] at hst ⊢; injection hst with _ h2; subst h2; rfl
            | some b => simp only at hst ⊢; simp only [Sem.run_bind, hst, Result.andThen_ok, Sem.run_pure]; rfl
          simp only [execOp, hop, Sem.run_bind, hr, Sem.run_pure, Result.andThen_ok, invoke, builtin, List.map_toArray, List.map_cons, List.map_nil, this]
        cases base with
        | none =>
          rw [hrun w (by simp), Oper.upon_value]
          exact hn _ h w rfl r hk
        | some b =>
          obtain ⟨blk, off, spot⟩ := b
          cases spot with
          | some sp => simp only at hk
          | none =>
            simp only at hk
            obtain ⟨hb, h', hst, hk⟩ := hk
            simp only [stc, Option.bind_eq_some_iff] at hst
            obtain ⟨ob, hob, hst⟩ := hst
            split at hst
            · rename_i hc
              simp only [Option.some.injEq] at hst; subst hst
              have hsz : ob.cells.length ≤ ob.size := by
                obtain ⟨c, T, fz, g1, ⟨t', g2⟩, g3⟩ := r.obs blk ob hob
                rw [← (g3 hb).1, ← Array.length_toList, ← g2]; simp
              obtain ⟨W, h1, h2⟩ := Rel.setN (P := P) (cs.take (Nat.min n dLen * i.size)) off 0 w h ob r hob hb (by omega) (by omega) hc.2.2
              rw [hrun W h1, Oper.upon_value]
              exact hn _ (h.set blk ⟨splice ob.cells off (cs.take (Nat.min n dLen * i.size)), ob.size⟩) W rfl (by simpa using h2) hk
            · cases hst
      split at hp
      · rename_i e e' hte hue
        simp only [Option.bind_eq_some_iff, Option.some.injEq] at hp
        obtain ⟨i, hi, hp⟩ := hp
        exact fin e i hte hi hp.symm
      · rename_i e hte hue
        simp only [Option.bind_eq_some_iff] at hp
        obtain ⟨i, hi, hp⟩ := hp
        split at hp
        · rename_i hc
          refine fin e i hte hi ?_
          rw [hc]; exact (Option.some.inj hp).symm
        · cases hp
      · cases hp
    · rename_i x t ts hcal hargs htys -- clear
      have ha : c.args = #[x] := by rw [← Array.toList_inj, hargs]
      have ht : c.argTypes[0]? = some t := by rw [← Array.getElem?_toList, htys]; rfl
      obtain ⟨kc, hr⟩ := resolve_builtin (ρ := a.eval) o.type hcal
      rw [ha] at hr
      split at hp
      · rename_i e hte
        simp only [Option.bind_eq_some_iff] at hp
        obtain ⟨i, hi, z, hz, hp⟩ := hp
        split at hp
        · cases hp
        · rename_i hc
          simp only [Option.some.injEq] at hp; subst hp
          obtain ⟨p, hp, hk⟩ := hK
          obtain ⟨base, n, cap⟩ := p
          have hsx := asL_some hp
          simp only at hsx hk
          have e0 : (#[Value.slice base n cap] : Array Value)[0]? = some (.slice base n cap) := rfl
          have head : ∀ (W : World), (Builtin.clear_ c.argTypes o.type #[a.eval x]).run P w = .ok (.tuple #[]) W → (execOp a.eval o).run P w = .ok (.value (.tuple #[])) W := by
            intro W hres
            simp only [execOp, hop, Sem.run_bind, hr, Sem.run_pure, Result.andThen_ok, invoke, builtin, List.map_toArray, List.map_cons, List.map_nil, hres]
          cases base with
          | none =>
            simp only at hk
            rw [head w (by unfold Builtin.clear_; simp [ht, hρ, hsx, run_underlying hte]), Oper.upon_value]
            exact hn _ h w rfl r hk
          | some b =>
            cases n with
            | zero =>
              simp only at hk
              rw [head w (by unfold Builtin.clear_; simp [ht, hρ, hsx, run_underlying hte]), Oper.upon_value]
              exact hn _ h w rfl r hk
            | succ n =>
              obtain ⟨blk, off, spot⟩ := b
              cases spot with
              | some sp => simp only at hk
              | none =>
                simp only at hk
                obtain ⟨hb, h', hst, hk⟩ := hk
                simp only [stc, Option.bind_eq_some_iff] at hst
                obtain ⟨ob, hob, hst⟩ := hst
                split at hst
                · rename_i hcc
                  simp only [Option.some.injEq] at hst; subst hst
                  have hsz : ob.cells.length ≤ ob.size := by
                    obtain ⟨c, T, fz, g1, ⟨t', g2⟩, g3⟩ := r.obs blk ob hob
                    rw [← (g3 hb).1, ← Array.length_toList, ← g2]; simp
                  obtain ⟨W, h1, h2⟩ := Rel.setN (P := P) (List.replicate (n + 1) z.cells.toList).flatten off 0 w h ob r hob hb (by omega) (by omega) hcc.2.2
                  have hzc : (Builtin.zeroCells z.cells (n + 1)).toList = (List.replicate (n + 1) z.cells.toList).flatten := by
                    have hne : z.cells.toList ≠ [] := by
                      intro h0; have : z.cells.size = 0 := by rw [← Array.length_toList, h0]; rfl
                      omega
                    have := range_zero z.cells.toList (n + 1) hne
                    simp only [Array.length_toList] at this
                    unfold Builtin.zeroCells
                    rw [show z.cells.toList.toArray = z.cells from by simp] at this
                    rw [this]
                  have hrun : (Builtin.clear_ c.argTypes o.type #[a.eval x]).run P w = .ok (.tuple #[]) W := by
                    unfold Builtin.clear_
                    simp only [ht, hρ, hsx, e0, Sem.run_bind, run_underlying hte, Result.andThen_ok, run_zeroValue' hi hz, hzc, h1, Sem.run_pure]
                  rw [head W hrun, Oper.upon_value]
                  exact hn _ (h.set blk ⟨splice ob.cells off (List.replicate (n + 1) z.cells.toList).flatten, ob.size⟩) W rfl (by simpa using h2) hk
                · cases hst
      · cases hp
    · rename_i fo hcal -- call
      simp only [Option.some.injEq] at hp; subst hp
      obtain ⟨p, hp, hk⟩ := hK
      obtain ⟨n, fa, fb⟩ := p
      obtain ⟨⟨fn, hfn, hname, hbody⟩, hcalls⟩ := hk
      have hr := resolve_value (ρ := a.eval) (c := c) o.type hcal (by rw [hρ]; exact hp)
      have hargs' : fa.toArray ++ Array.map a.eval c.args ++ fb.toArray = (fa ++ List.map (ev f) (List.map px c.args.toList) ++ fb).toArray := by
        rw [← Array.toList_inj]; simp [hmap]
      have hrun : (execOp a.eval o).run P w = .ok (.enter n (fa ++ List.map (ev f) (List.map px c.args.toList) ++ fb).toArray) w := by
        simp only [execOp, hop, Sem.run_bind, hr, Sem.run_pure, Result.andThen_ok, invoke, callFunc, run_program, hfn, hname, hbody, Bool.false_eq_true, if_false, hargs']
      rw [hrun, Oper.upon_enter]
      refine (hcalls w0 w r).mono ?_
      rintro e w' ⟨v, h', rfl, hb, hr', hk'⟩
      exact hn v h' w' hb hr' hk'
    · cases hp
  case h_10 => cases hp
end
end Go.KH
