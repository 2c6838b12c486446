/- A helper of this seat's claims (the logic of the walks): what it shows is shown for every input that its statements name, on no other condition. -/
import Derived.Test.YtpponffjeilhmaaK4
set_option linter.unusedVariables false
set_option linter.unusedSimpArgs false
namespace Go.KH
open Go.RowKit

section
variable {P : Program}

theorem eqGuardIn_flat (w : World) (t : TypeId) (a b : List Value) (h : P.eqGuardType P.depth t = false) (x y : Operand) (op : BinOp) :
    (eqGuard op t x y (.agg a.toArray) (.agg b.toArray)).run P w = .ok () w := by
  unfold eqGuard
  cases op <;> simp [h]

theorem run_places (w : World) : ∀ (fl : List Field), (∀ fd ∈ fl, ∃ i, P.info? fd.type = some i) →
    ∃ pl : List (Nat × Nat), (fl.mapM fun f => (do pure (f.offset, ← sizeOf f.type) : Sem (Nat × Nat))).run P w = .ok pl w ∧
      ∀ (j : Nat) (fd : Field) (i : TypeInfo), fl[j]? = some fd → P.info? fd.type = some i → pl[j]? = some (fd.offset, i.size)
  | [], _ => ⟨[], by simp, by simp⟩
  | f :: fl, h => by
    obtain ⟨i, hi⟩ := h f (by simp)
    obtain ⟨pl, h1, h2⟩ := run_places w fl (fun fd hfd => h fd (by simp [hfd]))
    refine ⟨(f.offset, i.size) :: pl, ?_, ?_⟩
    · simp only [List.mapM_cons, Sem.run_bind, run_sizeOf' hi, Result.andThen_ok, Sem.run_pure, h1]
    · intro j fd i' hj hi'
      cases j with
      | zero => simp at hj; subst hj; rw [hi] at hi'; obtain rfl := Option.some.inj hi'; rfl
      | succ j => simp at hj; simpa using h2 j fd i' hj hi'

theorem mapM_get {α β : Type} {f : α → Option β} : ∀ (l : List α) (r : List β), l.mapM f = some r → r.length = l.length ∧ ∀ (j : Nat) (p : α) (q : β), l[j]? = some p → r[j]? = some q → f p = some q
  | [], r, h => by simp at h; subst h; simp
  | a :: l, r, h => by
    simp only [List.mapM_cons, Option.bind_eq_bind, Option.bind_eq_some_iff, Option.pure_def, Option.some.injEq] at h
    obtain ⟨b, hb, r', hr', rfl⟩ := h
    obtain ⟨h1, h2⟩ := mapM_get l r' hr'
    refine ⟨by simp [h1], ?_⟩
    intro j p q hp hq
    cases j with
    | zero => simp at hp hq; subst hp; subst hq; exact hb
    | succ j => exact h2 j p q (by simpa using hp) (by simpa using hq)

theorem asM_some {v : Value} {b : Nat} (h : asM v = some b) : v = .map (some b) := by
  unfold asM at h; split at h
  · simp at h; subst h; rfl
  · cases h

theorem findNow_mfind {kk : IntKind} (k : IntKind) (n : Int) : ∀ (es : List MapEntry) (i : Nat) (r : Option (Nat × Value)), mfind k n (es.map fun e => (e.key, e.val)) i = some r → Instr.findNow (.int kk) (.int k n) es i = some r
  | [], i, r, h => by simp only [List.map_nil, mfind, Option.some.injEq] at h; subst h; rfl
  | ⟨key, val, born⟩ :: es, i, r, h => by
    simp only [List.map_cons] at h
    cases key with
    | int k' m =>
      simp only [mfind] at h
      split at h
      · rename_i hk; subst hk
        unfold Instr.findNow
        simp only [Instr.sameNow, if_true]
        split at h
        · rename_i hm; subst hm
          simp only [Option.some.injEq] at h; subst h
          simp
        · rename_i hm
          have : (n == m) = false := by rw [beq_eq_false_iff_ne]; exact fun e => hm e.symm
          simp only [this]
          exact findNow_mfind k' n es (i + 1) r h
      · cases h
    | _ => simp [mfind] at h

theorem resolve_builtin {ρ : Operand → Value} {c : Call} {b : Builtin} (ty : TypeId) (h : c.callee = .builtin b) : ∃ k, resolve ρ c ty = pure { target := .builtin b c.argTypes ty k, args := c.args.map ρ } :=
  ⟨_, by unfold resolve; rw [h]⟩

theorem run_prepP {o : Oper} {po : PO} (hp : prepP P o = some po) {ρ' : Operand → Value} {ρ : X → Value} (hρ : ∀ x, ρ' x = ρ (px x))
    {h : H} {w : World} (hh : Has h w) {v : Value} (hv : pval ρ h po = some v) : (execOp ρ' o).run P w = .ok (.value v) w := by
  unfold prepP at hp
  split at hp
  case h_1 x hop => -- move
    simp only [Option.some.injEq] at hp; subst hp
    simp only [pval, Option.some.injEq] at hv; subst hv
    simp [execOp, hop, hρ]
  case h_2 x hop => -- assign
    simp only [Option.some.injEq] at hp; subst hp
    simp only [pval, Option.some.injEq] at hv; subst hv
    simp [execOp, hop, hρ]
  case h_3 c a b hop => -- pick
    simp only [Option.some.injEq] at hp; subst hp
    simp only [pval, Option.bind_eq_some_iff, Option.some.injEq] at hv
    obtain ⟨t, ht, rfl⟩ := hv
    have := asB_some ht
    simp [execOp, hop, hρ, this, asBool]
  case h_4 t x hop => -- load
    simp only [Option.bind_eq_some_iff, Option.some.injEq] at hp
    obtain ⟨d, hd, i, hi, rfl⟩ := hp
    by_cases hA : isAggD d = true
    · simp only [hA, if_true, pval, Option.bind_eq_some_iff, Option.some.injEq] at hv
      obtain ⟨q, hq, cs, hc, rfl⟩ := hv
      simp [execOp, hop, hρ, asP_some hq, Instr.loadAt, Instr.sureAddr, loadVar, run_isAgg' hd, hA, run_sizeOf' hi, run_ldc hh hc]
    · have hA : isAggD d = false := by simpa using hA
      simp only [hA, if_false, Bool.false_eq_true, pval, Option.bind_eq_some_iff] at hv
      obtain ⟨q, hq, cs, hc, hv⟩ := hv
      unfold one at hv
      split at hv
      · simp only [Option.some.injEq] at hv; subst hv
        simp only [execOp, hop, hρ, asP_some hq, Instr.loadAt, Instr.sureAddr, loadVar, Sem.run_bind, run_isAgg' hd, hA, Result.andThen_ok, if_false, Bool.false_eq_true, Sem.run_pure, ptr, run_ld1 hh hc]
      · cases hv
  case h_5 s x f hop => -- fieldAddr
    split at hp
    · rename_i fs hu
      simp only [Option.bind_eq_some_iff] at hp
      obtain ⟨fd, hf, i, hi, hp⟩ := hp
      split at hp
      · cases hp
      · rename_i hz
        simp only [Option.some.injEq] at hp; subst hp
        simp only [pval, Option.bind_eq_some_iff, Option.some.injEq] at hv
        obtain ⟨q, hq, rfl⟩ := hv
        simp only [execOp, hop, hρ, asP_some hq, Instr.fieldAt, Sem.run_bind, run_underlying hu, Result.andThen_ok, hf, Instr.sureAddr, Sem.run_pure, ptr, fieldPlace, run_sizeOf' hi, hz, if_false, addr_add]
    · cases hp
  case h_6 s x f hop => -- field
    split at hp
    · rename_i fs hu
      simp only [Option.bind_eq_some_iff, Option.some.injEq] at hp
      obtain ⟨fd, hf, i, hi, d, hd, rfl⟩ := hp
      simp only [pval, Option.bind_eq_some_iff] at hv
      obtain ⟨cs, hq, hv⟩ := hv
      simp only [execOp, hop, hρ, asA_some hq, Instr.field, Sem.run_bind, run_underlying hu, Result.andThen_ok, hf, asAgg, Sem.run_pure, run_part' hi hd cs _ w hv]
    · cases hp
  case h_7 t x i hop => -- indexAddr
    split at hp
    · rename_i e hu
      simp only [Option.bind_eq_some_iff, Option.some.injEq] at hp
      obtain ⟨j, hj, rfl⟩ := hp
      simp only [pval, Option.bind_eq_some_iff] at hv
      obtain ⟨p, hq, k, hk, hv⟩ := hv
      split at hv
      · rename_i hb
        simp only [Option.some.injEq] at hv; subst hv
        rcases asR_some hq with ⟨c, hx⟩ | ⟨a', c, hx, h0⟩
        · simp only [execOp, hop, hρ, hx, asI_some hk, Instr.indexAt, Sem.run_bind, run_asIntOf, Result.andThen_ok, run_underlying hu, Sem.run_pure, sl, run_sizeOf' hj, hb, and_self, if_true, addr_add, ptr]
        · omega
      · cases hv
    · rename_i n e hu
      simp only [Option.bind_eq_some_iff, Option.some.injEq] at hp
      obtain ⟨j, hj, rfl⟩ := hp
      simp only [pval, Option.bind_eq_some_iff] at hv
      obtain ⟨p, hq, k, hk, hv⟩ := hv
      split at hv
      · rename_i hb
        simp only [Option.some.injEq] at hv; subst hv
        simp only [execOp, hop, hρ, asP_some hq, asI_some hk, Instr.indexAt, Sem.run_bind, run_asIntOf, Result.andThen_ok, run_underlying hu, Sem.run_pure, ptr, Instr.sureAddr, run_sizeOf' hj, hb, and_self, if_true, addr_add]
      · cases hv
    · cases hp
  case h_8 t x i hop => -- index
    split at hp
    · rename_i hu
      simp only [Option.some.injEq] at hp; subst hp
      simp only [pval, Option.bind_eq_some_iff] at hv
      obtain ⟨s, hs, k, hk, hv⟩ := hv
      split at hv
      · rename_i h0
        simp only [Option.bind_eq_some_iff, Option.some.injEq] at hv
        obtain ⟨b, hb, rfl⟩ := hv
        obtain ⟨s', hs', rfl⟩ := asS_some hs
        have hb' : s'[k.2.toNat]? = some b := by
          have h1 : k.2.toNat < s'.size := by
            have := (List.getElem?_eq_some_iff.1 hb).1
            simpa [bl_length] using this
          rw [getElem?_pos s' k.2.toNat h1]
          have := (List.getElem?_eq_some_iff.1 hb).2
          have e : s'[k.2.toNat] = s'.data[k.2.toNat] := rfl
          rw [e]
          simpa [bl] using this
        simp only [execOp, hop, hρ, hs', asI_some hk, Instr.index, Sem.run_bind, run_asIntOf, Result.andThen_ok, run_underlying hu, h0, if_true, hb', Sem.run_pure]
      · cases hv
    · rename_i n e hu
      simp only [Option.bind_eq_some_iff, Option.some.injEq] at hp
      obtain ⟨j, hj, d, hd, rfl⟩ := hp
      simp only [pval, Option.bind_eq_some_iff] at hv
      obtain ⟨cs, hq, k, hk, hv⟩ := hv
      split at hv
      · rename_i hb
        simp only [execOp, hop, hρ, asA_some hq, asI_some hk, Instr.index, Sem.run_bind, run_asIntOf, Result.andThen_ok, run_underlying hu, hb, and_self, if_true, run_sizeOf' hj, Sem.run_pure, run_part' hj hd cs _ w hv]
      · cases hv
    · cases hp
  case h_9 op t x y yt hop => -- binOp
    split at hp
    · rename_i k hu
      simp only [Option.some.injEq] at hp; subst hp
      simp only [pval] at hv
      have hg : (eqGuard op t x y (ρ (px x)) (ρ (px y))).run P w = .ok () w := run_eqGuard w (fun c hc => by rw [hc] at hv; unfold obin at hv; split at hv <;> simp_all) (fun hc => by rw [hc] at hv; unfold obin at hv; split at hv <;> simp_all)
      simp only [execOp, hop, hρ, Sem.run_bind, hg, Result.andThen_ok, run_obin w hv, Sem.run_pure]
    · rename_i hu
      simp only [Option.some.injEq] at hp; subst hp
      simp only [pval] at hv
      have hg : (eqGuard op t x y (ρ (px x)) (ρ (px y))).run P w = .ok () w := run_eqGuard w (fun c hc => by rw [hc] at hv; unfold obin at hv; split at hv <;> simp_all) (fun hc => by rw [hc] at hv; unfold obin at hv; split at hv <;> simp_all)
      simp only [execOp, hop, hρ, Sem.run_bind, hg, Result.andThen_ok, run_obin w hv, Sem.run_pure]
    · rename_i hu
      have hbool : ∀ (neg : Bool), pval ρ h (.eqb neg (px x) (px y)) = some v → ∃ a b, ρ (px x) = .bool a ∧ ρ (px y) = .bool b ∧ v = negv neg (decide (a = b)) := by
        intro neg hv
        simp only [pval, Option.bind_eq_some_iff, Option.some.injEq] at hv
        obtain ⟨a, ha, b, hb, rfl⟩ := hv
        exact ⟨a, b, asB_some ha, asB_some hb, rfl⟩
      split at hp <;> first | (cases hp; done) | skip
      all_goals
        simp only [Option.some.injEq] at hp; subst hp
        obtain ⟨a, b, ha, hb, rfl⟩ := hbool _ hv
        have hg := run_eqGuard (P := P) (op := .eql) (t := t) (x := x) (y := y) (a := .bool a) (b := .bool b) w (by simp) (by simp)
        have hg' := run_eqGuard (P := P) (op := .neq) (t := t) (x := x) (y := y) (a := .bool a) (b := .bool b) w (by simp) (by simp)
        have he : (Op.equal t (.bool a) (.bool b)).run P w = .ok (decide (a = b)) w := run_eqBool 9999 w hu
        simp [execOp, hop, hρ, ha, hb, hg, hg', binOp, he, negv]
    · rename_i e hu
      have hs : ∀ (neg : Bool), pval ρ h (.eqs neg (px x) (px y)) = some v → ∃ r, oeqs (ρ (px x)) (ρ (px y)) = some r ∧ v = negv neg r := by
        intro neg hv
        simp only [pval, Option.bind_eq_some_iff, Option.some.injEq] at hv
        obtain ⟨r, hr, rfl⟩ := hv
        exact ⟨r, hr, rfl⟩
      split at hp <;> first | (cases hp; done) | skip
      all_goals
        simp only [Option.some.injEq] at hp; subst hp
        obtain ⟨r, hr, rfl⟩ := hs _ hv
        have he : (Op.equal t (ρ (px x)) (ρ (px y))).run P w = .ok r w := run_eqNil w hu hr
        have hsl : ∃ a n c a' n' c', ρ (px x) = .slice a n c ∧ ρ (px y) = .slice a' n' c' := by
          unfold oeqs at hr; split at hr <;> first | (cases hr; done) | skip
          · rename_i e1 e2; exact ⟨_, _, _, _, _, _, e1, e2⟩
          · rename_i e1 e2; exact ⟨_, _, _, _, _, _, e1, e2⟩
        obtain ⟨a, n, c, a', n', c', ha, hb⟩ := hsl
        rw [ha, hb] at he
        have hg := run_eqGuard (P := P) (op := .eql) (t := t) (x := x) (y := y) (a := .slice a n c) (b := .slice a' n' c') w (by simp) (by simp)
        have hg' := run_eqGuard (P := P) (op := .neq) (t := t) (x := x) (y := y) (a := .slice a n c) (b := .slice a' n' c') w (by simp) (by simp)
        simp [execOp, hop, hρ, ha, hb, hg, hg', binOp, he, negv]
    · rename_i fs hu
      split at hp
      · cases hp
      · rename_i hgd
        simp only [Option.bind_eq_some_iff] at hp
        obtain ⟨pl, hpl, hp⟩ := hp
        have hs : ∀ (neg : Bool), pval ρ h (.eqa neg pl (px x) (px y)) = some v → ∃ (a b : List Value) (r : Bool), ρ (px x) = .agg a.toArray ∧ ρ (px y) = .agg b.toArray ∧ (Op.equal t (.agg a.toArray) (.agg b.toArray)).run P w = .ok r w ∧ v = negv neg r := by
          intro neg hv
          simp only [pval, Option.bind_eq_some_iff] at hv
          obtain ⟨a, ha, b, hb, hv⟩ := hv
          split at hv
          · rename_i hc
            simp only [Option.bind_eq_some_iff, Option.some.injEq] at hv
            obtain ⟨r, hr, rfl⟩ := hv
            refine ⟨a, b, r, asA_some ha, asA_some hb, ?_, rfl⟩
            refine run_eqFlat w 10 10000 t pl (by omega) hpl _ _ r ⟨_, hu, by simp [isAggD]⟩ ⟨_, hu, by simp [isAggD]⟩ (by simpa [Value.cells] using hc.1) (by simpa [Value.cells] using hc.2.1) ?_ (by simpa [Value.cells] using hr)
            intro c hcm z hz
            have := List.all_eq_true.1 hc.2.2 c (by simpa [Value.cells] using hcm)
            rw [hz] at this; simp [Value.oneCell'] at this
          · cases hv
        split at hp <;> first | (cases hp; done) | skip
        all_goals
          simp only [Option.some.injEq] at hp; subst hp
          obtain ⟨a, b, r, ha, hb, he, rfl⟩ := hs _ hv
          have hg := eqGuardIn_flat (P := P) w t a b (by simpa using hgd) x y .eql
          have hg' := eqGuardIn_flat (P := P) w t a b (by simpa using hgd) x y .neq
          simp [execOp, hop, hρ, ha, hb, hg, hg', binOp, he, negv]
    · cases hp
  case h_10 op t x hop => -- unOp
    simp only [Option.some.injEq] at hp; subst hp
    simp only [pval] at hv
    simp [execOp, hop, hρ, run_oun w hv]
  case h_11 s d x hop => -- convert
    split at hp
    · rename_i k' k hs hd
      simp only [Option.some.injEq] at hp; subst hp
      simp only [pval, Option.bind_eq_some_iff, Option.some.injEq] at hv
      obtain ⟨q, hq, rfl⟩ := hv
      simp [execOp, hop, hρ, asI_some hq, convert, run_underlying hs, run_underlying hd, Conv.intToInt]
    · rename_i e hs hd
      split at hp
      · rename_i he
        simp only [Option.some.injEq] at hp; subst hp
        have hv' := hv
        simp only [pval] at hv
        have hx := run_b2s (P := P) hh _ hv
        have hsl : ∃ a n c, ρ (px x) = .slice a n c := by
          simp only [Option.bind_eq_some_iff] at hv
          obtain ⟨p, hp, _⟩ := hv
          rcases asR_some hp with ⟨c, e⟩ | ⟨_, c, e, _⟩ <;> exact ⟨_, _, _, e⟩
        obtain ⟨a, n, c, hsl⟩ := hsl
        rw [hsl] at hx
        simp [execOp, hop, hρ, hsl, convert, run_underlying hs, run_underlying hd, run_underlying he, hx]
      · cases hp
    · cases hp
  case h_12 t x lo hi hop =>
    have hlo : ∀ (z : Option Operand), (z.map px).map ρ = z.map ρ' := fun z => by cases z <;> simp [hρ]
    split at hp
    · rename_i hu
      simp only [Option.some.injEq] at hp; subst hp
      simp only [pval, Option.bind_eq_some_iff, Option.some.injEq, hlo] at hv
      obtain ⟨s, hs, hh', h1, l, h2, rfl⟩ := hv
      obtain ⟨s', hs', rfl⟩ := asS_some hs
      rw [bl_length] at h1
      have e : (if ¬ (match P.underlying t with | some (.array ..) => true | _ => false) = true then true else false) = true := by rw [hu]; rfl
      simp only [execOp, hop, Instr.sliceAt, Sem.run_bind, run_underlying hu, Result.andThen_ok, hρ, hs', Instr.slice, run_bounds w h1 h2, Option.map_none, Option.isSome_none, Bool.false_eq_true, if_false, Sem.run_pure]
      congr 2
      rw [str]
      congr 1
      apply ByteArray.ext
      rw [← Array.toList_inj]
      simp [bl, ByteArray.data_extract, List.extract_eq_take_drop, List.drop_take]
    · rename_i e hu
      simp only [Option.bind_eq_some_iff, Option.some.injEq] at hp
      obtain ⟨j, hj, rfl⟩ := hp
      simp only [pval, Option.bind_eq_some_iff, Option.some.injEq, hlo] at hv
      obtain ⟨p, hp, hh', h1, l, h2, rfl⟩ := hv
      simp only [execOp, hop, Instr.sliceAt, Sem.run_bind, run_underlying hu, Result.andThen_ok, hρ, asL_some hp, Instr.slice, run_bounds w h1 h2, Option.map_none, run_sizeOf' hj, Sem.run_pure]
    · cases hp
  case h_13 t x lo hi mx hop =>
    split at hp
    · rename_i e hu
      simp only [Option.bind_eq_some_iff, Option.some.injEq] at hp
      obtain ⟨j, hj, rfl⟩ := hp
      simp only [pval, Option.bind_eq_some_iff, Option.some.injEq] at hv
      obtain ⟨p, hp, m, h1, hh', h2, l, h3, rfl⟩ := hv
      have hb : ∀ b, (Instr.sliceBounds true p.2.1 p.2.2 (some (ρ (px lo))) (some (ρ (px hi))) (some (ρ (px mx)))).run P b = .ok (l, hh', m) b := by
        intro b
        unfold Instr.sliceBounds
        simp [run_bnd b _ rfl h1, run_bnd b _ rfl h2, run_bnd b _ rfl h3]
      simp only [execOp, hop, Instr.sliceAt, Sem.run_bind, run_underlying hu, Result.andThen_ok, hρ, asL_some hp, Instr.slice, hb, Option.map_some, run_sizeOf' hj, Sem.run_pure]
    · cases hp
  case h_14 t x i hop =>
    split at hp
    · rename_i k e hu
      split at hp
      · rename_i kk hk
        simp only [Option.bind_eq_some_iff, Option.some.injEq] at hp
        obtain ⟨ie, hie, z, hz, rfl⟩ := hp
        simp only [pval, Option.bind_eq_some_iff, Option.some.injEq] at hv
        obtain ⟨b, hb, l, hl, q, hq, r, hr, rfl⟩ := hv
        obtain ⟨es, clock, hes, hel⟩ := hh.maps b l hl
        have hobj : (getObj b).run P w = .ok (.map es clock) w := by simp only [getObj, Sem.run, hes]
        have hfind := findNow_mfind (kk := kk) q.1 q.2 es.toList 0 r (by rw [hel]; exact hr)
        have hck : (Instr.checkKey es.isEmpty 10000 k (.int q.1 q.2)).run P w = .ok () w := by
          show (Instr.checkKey es.isEmpty (9999 + 1) k (.int q.1 q.2)).run P w = .ok () w
          unfold Instr.checkKey
          simp only [Sem.run_bind, run_underlying hk, Result.andThen_ok]
          rfl
        simp only [execOp, hop, hρ, asM_some hb, asI_some hq, Instr.lookup, Sem.run_bind, run_underlying hu, Result.andThen_ok, hobj, Sem.run_pure, hck, Instr.findKey, run_underlying hk, hfind]
        cases r with
        | none => simp only [Sem.run_bind, run_zeroValue' hie hz, Result.andThen_ok, Sem.run_pure]; rfl
        | some r => obtain ⟨i', v'⟩ := r; simp only [Sem.run_pure, Result.andThen_ok]; rfl
      · cases hp
    · cases hp
  case h_15 x k hop =>
    simp only [Option.some.injEq] at hp; subst hp
    simp only [pval, Option.bind_eq_some_iff] at hv
    obtain ⟨cs, hc, hv⟩ := hv
    simp [execOp, hop, hρ, asT_some hc, Instr.extract, hv]
  case h_16 f first caps hop =>
    split at hp
    · rename_i hf
      simp only [Option.some.injEq] at hp; subst hp
      simp only [pval, Option.some.injEq] at hv; subst hv
      have : first = #[] := by simpa using hf
      subst this
      have e : Array.map ρ' caps = ((caps.toList.map px).map ρ).toArray := by
        rw [← Array.toList_inj]; simp [hρ]
      simp only [execOp, hop, Instr.makeFunc, Sem.run_bind, Sem.run_pure, Result.andThen_ok, e, Array.map_empty]
    · cases hp
  case h_17 t parts hop =>
    split at hp
    · rename_i fs z hu hz
      simp only [Option.bind_eq_some_iff] at hp hz
      obtain ⟨i0, hi0, hz⟩ := hz
      obtain ⟨ps, hps, hp⟩ := hp
      split at hp
      · rename_i hall
        simp only [Option.some.injEq] at hp; subst hp
        simp only [pval, Option.bind_eq_some_iff, Option.some.injEq] at hv
        obtain ⟨cs, hc, rfl⟩ := hv
        have hall' : ∀ fd ∈ fs.toList, ∃ i, P.info? fd.type = some i := fun fd hfd => Option.isSome_iff_exists.1 (List.all_eq_true.1 hall fd hfd)
        obtain ⟨pl, hpl, hget⟩ := run_places (P := P) w fs.toList hall'
        have hpl' : (fs.mapM fun f => (do pure (f.offset, ← sizeOf f.type) : Sem (Nat × Nat))).run P w = .ok pl.toArray w := by
          rw [← Array.toArray_toList (xs := fs), List.mapM_toArray]
          simp only [Sem.run_map, hpl, Result.andThen_ok]
        have hmap := mapM_get parts.toList ps hps
        have hfill : Instr.fill (fun i => pl.toArray[i]?) z.cells.toList.toArray ((parts.map fun (i, x) => (i, ρ' x)).toList) = some cs.toArray := by
          refine fill_of _ _ _ _ hc (by simp [hmap.1]) ?_
          intro j p q hj hq
          simp only [Array.toList_map, List.getElem?_map, Option.map_eq_some_iff] at hj hq
          obtain ⟨p0, hp0, rfl⟩ := hj
          obtain ⟨q0, hq0, rfl⟩ := hq
          have := hmap.2 j p0 q0 hp0 hq0
          simp only [Option.bind_eq_some_iff, Option.map_eq_some_iff] at this
          obtain ⟨fd, hfd, i, hi, rfl⟩ := this
          refine ⟨by simp [hρ], ?_⟩
          have := hget p0.1 fd i (by simpa using hfd) hi
          simpa using this
        simp only [execOp, hop, Instr.build, Sem.run_bind, run_zeroValue' hi0 hz, Result.andThen_ok, run_underlying hu, hpl', hfill, Sem.run_pure]
      · cases hp
    · rename_i n e z hu hz
      simp only [Option.bind_eq_some_iff, Option.some.injEq] at hp hz
      obtain ⟨i0, hi0, hz⟩ := hz
      obtain ⟨j, hj, rfl⟩ := hp
      simp only [pval, Option.bind_eq_some_iff, Option.some.injEq] at hv
      obtain ⟨cs, hc, rfl⟩ := hv
      have hfill : Instr.fill (fun i => some (i * j.size, j.size)) z.cells.toList.toArray ((parts.map fun (i, x) => (i, ρ' x)).toList) = some cs.toArray := by
        refine fill_of _ _ _ _ hc (by simp) ?_
        intro j p q hj hq
        simp only [Array.toList_map, List.getElem?_map, Option.map_eq_some_iff, List.map_map] at hj hq
        obtain ⟨p0, hp0, rfl⟩ := hj
        obtain ⟨q0, hq0, rfl⟩ := hq
        rw [hp0] at hq0
        obtain rfl := Option.some.inj hq0
        exact ⟨by simp [hρ], rfl⟩
      simp only [execOp, hop, Instr.build, Sem.run_bind, run_zeroValue' hi0 hz, Result.andThen_ok, run_underlying hu, run_sizeOf' hj, Sem.run_pure]
      rw [show z.cells = z.cells.toList.toArray from by simp, hfill]
      rfl
    · cases hp
  case h_18 c hop =>
    split at hp
    · rename_i x t ts hcal hargs htys
      have ha : c.args = #[x] := by rw [← Array.toList_inj, hargs]
      have ht : c.argTypes[0]? = some t := by rw [← Array.getElem?_toList, htys]; rfl
      obtain ⟨k, hr⟩ := resolve_builtin (ρ := ρ') o.type hcal
      rw [ha] at hr
      split at hp
      · rename_i hu
        simp only [Option.some.injEq] at hp; subst hp
        simp only [pval, Option.bind_eq_some_iff, Option.some.injEq] at hv
        obtain ⟨s, hs, rfl⟩ := hv
        obtain ⟨s', hs', rfl⟩ := asS_some hs
        simp [execOp, hop, hr, invoke, builtin, Builtin.len_, ht, run_underlying hu, hρ, hs', goInt, bl_length]
      · rename_i e hu
        simp only [Option.some.injEq] at hp; subst hp
        simp only [pval, Option.bind_eq_some_iff, Option.some.injEq] at hv
        obtain ⟨q, hq, rfl⟩ := hv
        simp [execOp, hop, hr, invoke, builtin, Builtin.len_, ht, run_underlying hu, hρ, asL_some hq, goInt]
      · rename_i n e hu
        simp only [Option.some.injEq] at hp; subst hp
        simp only [pval, Option.some.injEq] at hv; subst hv
        simp [execOp, hop, hr, invoke, builtin, Builtin.len_, ht, run_underlying hu, goInt]
      · rename_i k e hu
        simp only [Option.some.injEq] at hp; subst hp
        simp only [pval, Option.bind_eq_some_iff, Option.some.injEq] at hv
        obtain ⟨b, hb, l, hl, rfl⟩ := hv
        obtain ⟨es, clock, hes, hel⟩ := hh.maps b l hl
        have hobj : (getObj b).run P w = .ok (.map es clock) w := by simp only [getObj, Sem.run, hes]
        have hlen : l.length = es.size := by rw [← hel]; simp
        simp [execOp, hop, hr, invoke, builtin, Builtin.len_, ht, run_underlying hu, hρ, asM_some hb, hobj, goInt, hlen]
      · cases hp
    · rename_i ts x y hcal hargs
      simp only [Option.some.injEq] at hp; subst hp
      have ha : c.args = #[x, y] := by rw [← Array.toList_inj, hargs]
      obtain ⟨k, hr⟩ := resolve_builtin (ρ := ρ') o.type hcal
      rw [ha] at hr
      simp only [pval, Option.bind_eq_some_iff, Option.some.injEq] at hv
      obtain ⟨a, ha, b, hb, rfl⟩ := hv
      simp [execOp, hop, hr, invoke, builtin, Builtin.min_, hρ, asI_some ha, asI_some hb, Builtin.min2]
    · rename_i ts x y hcal hargs
      simp only [Option.some.injEq] at hp; subst hp
      have ha : c.args = #[x, y] := by rw [← Array.toList_inj, hargs]
      obtain ⟨k, hr⟩ := resolve_builtin (ρ := ρ') o.type hcal
      rw [ha] at hr
      simp only [pval, Option.bind_eq_some_iff, Option.some.injEq] at hv
      obtain ⟨a, ha, b, hb, rfl⟩ := hv
      simp [execOp, hop, hr, invoke, builtin, Builtin.max_, hρ, asI_some ha, asI_some hb, Builtin.max2]
    · cases hp
  case h_19 x hop =>
    simp only [Option.some.injEq] at hp; subst hp
    simp only [pval] at hv
    split at hv
    · rename_i hn
      simp only [Option.some.injEq] at hv; subst hv
      unfold nckv at hn
      split at hn
      · rename_i e; simp [execOp, hop, hρ, e]
      · rename_i e; simp [execOp, hop, hρ, e]
      · cases hn
    · cases hv
  case h_20 => cases hp
end
end Go.KH
