/- A helper of this seat's claims (contracts of the functions): what it shows is shown for every input that its statements name, on no other condition. -/
import Derived.Test.YthjbhdmjfakfaaaGreatDoorMCZg
import Derived.Test.YthjbhdmjfakfaaaGreatDoorMC13b
import Derived.Test.YthjbhdmjfakfaaaGreatDoorMC06
import Derived.Test.YthjbhdmjfakfaaaGreatDoorKD
import Derived.Test.YthjbhdmjfakfaaaGreatDoorMC10t
import Derived.Test.YthjbhdmjfakfaaaGreatDoorMCZj
import Derived.Test.YthjbhdmjfakfaaaGreatDoorKC
import Derived.OpenVars
import Derived.LaidMore
import Derived.LaidHandle
import Derived.MakeChecks
import Derived.Lib.LaidTab
import Derived.Stop.Joined
import Derived.Test.YthjbhdmjfakfaaaGreatDoorMCZ
import Derived.Test.YthjbhdmjfakfaaaGreatDoorRows
import Derived.Test.YthjbhdmjfakfaaaGreatDoorMCDs
set_option linter.unusedVariables false
set_option linter.unusedSimpArgs false
set_option maxRecDepth 100000
namespace Go.Proofs.YthjbhdmjfakfaaaGreatDoor
open Go.KH

/-! ## Packages read, in plain words -/
end Go.Proofs.YthjbhdmjfakfaaaGreatDoor

set_option linter.unusedVariables false
set_option linter.unusedSimpArgs false
set_option maxRecDepth 100000
namespace Go.Proofs.YthjbhdmjfakfaaaGreatDoor
open Go.KH

/-! ## Packages read -/
end Go.Proofs.YthjbhdmjfakfaaaGreatDoor

set_option linter.unusedVariables false
set_option linter.unusedSimpArgs false
set_option maxRecDepth 100000
namespace Go.Proofs.YthjbhdmjfakfaaaGreatDoor
open Go.KH

/-! ## PackageRead -/
end Go.Proofs.YthjbhdmjfakfaaaGreatDoor

set_option linter.unusedVariables false
set_option linter.unusedSimpArgs false
set_option maxRecDepth 100000
namespace Go.Proofs.YthjbhdmjfakfaaaGreatDoor
open Go.KH

/-! ## What the law of packages draws -/
theorem PkgDrawn.back {h h1 h3 : H} {p : UPkg} {T : List (List UInt8)} {vs vo : Value} (P : PkgDrawn h1 h3 p T vs vo) (e : ∀ b, h1.get b = none → h.get b = none) : PkgDrawn h h3 p T vs vo :=
  ⟨P.blocks, P.digest, P.steps, P.few, ownBN P.own e, ownBN P.old e, P.img⟩
theorem PkgDrawn.set {h h3 : H} {p : UPkg} {T : List (List UInt8)} {vs vo : Value} (P : PkgDrawn h h3 p T vs vo) {c : Nat} (h1 : ob vs ≠ some c) (h2 : ob vo ≠ some c) (y : Ob) : PkgDrawn h (h3.set c y) p T vs vo :=
  ⟨P.blocks, P.digest, P.steps, P.few, P.own.setOb h1 y, P.old.setOb h2 y, P.img⟩
theorem PkgDrawn.ext {h h3 h4 : H} {p : UPkg} {T : List (List UInt8)} {vs vo : Value} (P : PkgDrawn h h3 p T vs vo) (e : Ext h3 h4) : PkgDrawn h h4 p T vs vo :=
  ⟨P.blocks, P.digest, P.steps, P.few, P.own.ext e, P.old.ext e, P.img⟩
/-- The source, and the package drawn of it. -/
theorem pkg_of {hA h1 h3 : H} {v : Value} {l : List UInt8} {b : Nat} (e1 : Ext hA h1) (nb : hA.get b = none) (D : Drew v l b h1 h3) : Ext hA h3 := Keep.ext e1 D.1 (fun c e => by subst e; exact nb)
def b_spec_DrawStepsFor : C := (jo [q 2 (.mv (.c nils)), q 3 (.mv (.c nils))]
 (jo [jm 8 0, jc 9 41 [(.t 8)], jm 4 9]
 (jo [jm 10 4, jc 11 49 [(.t 10)], jm 5 11]
 (jo [⟨(some 12), none, .bsl 0 [] []⟩, jm 13 5, ⟨(some 14), none, .app 1 16 (.t 12) (.t 13)⟩, jm 6 14]
 (.seq (jo [q 7 (.mv (.c (i64 0)))]
 (.block 0 (.loop (.seq (jo [jm 15 7, jm 16 6, q 17 (.len (.t 16)), jb 18 .lss 15 17]
 (.cond (.t 18) .skip (.exit 0)))
 (.seq (.block 1 (jo [jm 21 4, jc 22 48 [(.t 21), (.c (i64 2))]]
 (.cond (.t 22) (.ops [jm 23 6, jm 24 7, jm 25 4, jc 26 83 [(.t 25)], q 27 (.idx 1 (.t 23) (.t 24)), js 1 27 26]) .skip)))
 (.ops [jm 19 7, jk 20 .add 19 1, jm 7 20]))))))
 (.seq (jo [jm 28 4, jc 29 48 [(.t 28), (.c (i64 12))]]
 (.cond (.t 29) (.ops [jm 30 4, jc 31 49 [(.t 30)], jm 6 31]) .skip))
 (jo [jm 32 5, jm 33 6, jm 2 32, jm 3 33]
 .ret)))))))
theorem w_spec_DrawStepsFor : Wk Tryz.prog 33 34 [.tmp 2, .tmp 3] b_spec_DrawStepsFor := Wk.of mixedOrders Tryz.func33 (by kernel_rfl) (by kernel_rfl)

theorem drawStepsFor_ac {h : H} {v : Value} {l : List UInt8} (hv : Sl h v 1 (bys l)) (hn : l.length ≤ 1048576) : AC Tryz.prog 33 [v] h fun r h' => Ext h h' ∧ ∃ (A B : List (List UInt8)) (va vb : Value), r = .tuple #[va, vb] ∧ (∀ t ∈ A, t.length ≤ 9) ∧ A.length ≤ 10 ∧ Sl h' va 1 (strs A) ∧ (∀ t ∈ B, t.length ≤ 9) ∧ B.length ≤ 10 ∧ Sl h' vb 1 (strs B) := by
  refine w_spec_DrawStepsFor (by simp) ?_
  unfold b_spec_DrawStepsFor
  simp -implicitDefEqProofs only [go_sem]
  refine AC_of (source_ac hv hn) ?_
  rintro _ h1 - ⟨b, rfl, nb, e1, s1⟩
  simp -implicitDefEqProofs only [go_sem]
  refine AC_of (src_oddImage s1) ?_
  rintro va h2 - ⟨⟨A, hA, hA10, fA⟩, d1⟩
  have hS : ∀ x, x = b → h1.get x ≠ none := fun x e => by subst e; exact s1.known
  have hlA : (strs A).length = A.length := by simp
  obtain ⟨aa, ca, rfl⟩ := fA.shape
  rw [hlA] at fA
  simp -implicitDefEqProofs only [go_sem, hlA]
  intro b12 hb12 n12
  have q12 : b12 ≠ b := fun e => by subst e; exact d1.2.known n12
  have hsrc := src0 n12 fA.sl (strs_wid _) (by decide)
  simp -implicitDefEqProofs only [go_sem, hsrc]
  refine app0 hb12 n12 (by rw [hlA]) (strs_wid _) (strs_one _) (by rw [hlA]; omega) ?_
  intro vb h3 e3 o3
  have D3 := d1.ext e3
  have hdj : ∀ x, blk (.slice aa A.length ca) = some x → ob vb ≠ some x := fun x e1 e2 => fA.known x e1 (o3.ob_new e2).1
  have oB := ownBN o3 d1.1.nones
  have fA3 := fA.ext e3
  obtain ⟨ab, cb, rfl⟩ := o3.shape
  rw [hlA] at oB hdj
  clear o3 hsrc
  simp -implicitDefEqProofs only [go_sem, hlA]
  refine loopW_of (fun m f h' => ∃ (k : Nat) (B : List (List UInt8)), m + k = A.length ∧ B.length = A.length ∧ (∀ t ∈ B, t.length ≤ 9) ∧ f 4 = ptr b 0 ∧ f 5 = .slice aa A.length ca ∧ f 6 = .slice ab A.length cb ∧ f 7 = i64 k ∧ Own h1 h' (.slice ab A.length cb) 1 (strs B) ∧ Fre h1 h' (.slice aa A.length ca) 1 (strs A) ∧ Drew v l b h1 h') A.length
    ⟨0, A, by simp, rfl, hA, by simp -implicitDefEqProofs only [go_sem], by simp -implicitDefEqProofs only [go_sem, hlA], by simp -implicitDefEqProofs only [go_sem, hlA], by simp -implicitDefEqProofs only [go_sem]; rfl, oB, fA3, D3⟩ ?_
  clear D3 oB fA3
  rintro m f h4 ⟨k, B, hm, hB, hB9, f4, f5, f6, f7, oB, fA4, D⟩
  skip
  have hlB : (strs B).length = A.length := by simp [hB]
  by_cases hk : k < A.length
  · simp -implicitDefEqProofs only [go_sem, hk, f4, f5, f6, f7, Int.ofNat_lt, Int.natCast_nonneg]
    refine AC_of (src_one D.2 (by omega)) ?_
    rintro _ h5 - ⟨⟨t, rfl⟩, d5⟩
    have D5 := D.trans d5
    have oB5 := oB.keepS d5.1 hS
    have fA5 := fA4.keep d5.1 (fun x hx e => by subst e; exact s1.known (fA4.new x hx))
    cases t
    · simp -implicitDefEqProofs only [go_sem, wrap_i64 (show -(9223372036854775808 : Int) ≤ ((k : Int) + 1) by omega) (show ((k : Int) + 1) < 9223372036854775808 by omega), f4, f5, f6, f7, Int.ofNat_lt, Int.natCast_nonneg]
      exact ⟨m - 1, by omega, _, Ext.refl _, k + 1, B, by omega, hB, hB9, rfl, oB5, fA5, D5⟩
    · simp -implicitDefEqProofs only [go_sem, f4, f5, f6, f7, Int.ofNat_lt, Int.natCast_nonneg]
      refine AC_of (src_data D5.2) ?_
      rintro _ h6 - ⟨⟨s, hs8, rfl⟩, d6⟩
      have D6 := D5.trans d6
      have oB6 := oB5.keepS d6.1 hS
      have fA6 := fA5.keep d6.1 (fun x hx e => by subst e; exact s1.known (fA5.new x hx))
      obtain ⟨b', c', z, hvb, hb', hn', hg', hst, oB7⟩ := own_put oB6 (k := k) (by rw [hlB]; exact hk) (r := [str s]) rfl rfl
      rw [hlB] at hvb
      rw [hvb] at f6 hdj oB7 ⊢
      have hset : (strs B).set k [str s] = strs (B.set k s) := by simp [List.map_set]
      rw [hset] at oB7 hst
      rw [Nat.mul_one] at hst
      simp -implicitDefEqProofs only [go_sem, hk, hb', Nat.mul_one, hst, wrap_i64 (show -(9223372036854775808 : Int) ≤ ((k : Int) + 1) by omega) (show ((k : Int) + 1) < 9223372036854775808 by omega), f4, f5, f6, f7, Int.ofNat_lt, Int.natCast_nonneg]
      exact ⟨m - 1, by omega, _, Ext.refl _, k + 1, B.set k s, by omega, by simp [hB], fun t ht => by
        rcases List.mem_or_eq_of_mem_set ht with h | rfl
        · exact hB9 t h
        · omega, rfl, oB7, Fre.setNe fA6 (fun e => hdj _ e rfl) _, Drew.set D6 hn' s1 _⟩
  have e : k = A.length := by omega
  subst e
  simp -implicitDefEqProofs only [go_sem, Nat.lt_irrefl, f4, f5, f6, f7, Int.ofNat_lt, Int.natCast_nonneg]
  refine AC_of (src_one D.2 (by omega)) ?_
  rintro _ h5 - ⟨⟨t, rfl⟩, d5⟩
  have D5 := D.trans d5
  have oB5 := oB.keepS d5.1 hS
  have fA5 := fA4.keep d5.1 (fun x hx e => by subst e; exact s1.known (fA4.new x hx))
  cases t
  · simp -implicitDefEqProofs only [go_sem, f4, f5, f6, f7, Int.ofNat_lt, Int.natCast_nonneg]
    exact ⟨pkg_of e1 nb D5, A, B, _, _, rfl, hA, hA10, fA5.sl, hB9, by omega, by have := oB5.sl; exact this⟩
  · simp -implicitDefEqProofs only [go_sem, f4, f5, f6, f7, Int.ofNat_lt, Int.natCast_nonneg]
    refine AC_of (src_oddImage D5.2) ?_
    rintro vt h6 - ⟨⟨T2, hT2, hT3, f8⟩, d6⟩
    simp -implicitDefEqProofs only [go_sem, f4, f5, f6, f7, Int.ofNat_lt, Int.natCast_nonneg]
    exact ⟨pkg_of e1 nb (D5.trans d6), A, T2, _, _, rfl, hA, hA10, (fA5.keep d6.1 (fun x hx e => by subst e; exact s1.known (fA5.new x hx))).sl, hT2, hT3, f8.sl⟩
def b_spec_DrawPackageOf : C := (jo [q 2 (.mv (.c nils)), q 3 (.mv (.c nils))]
 (jo [jm 4 0, jc 5 33 [(.t 4)], q 6 (.ext 0 (.t 5)), q 7 (.ext 1 (.t 5)), jm 2 6, jm 3 7]
 .ret))
theorem w_spec_DrawPackageOf : Wk Tryz.prog 6 8 [.tmp 2, .tmp 3] b_spec_DrawPackageOf := Wk.of mixedOrders Tryz.func6 (by kernel_rfl) (by kernel_rfl)

theorem drawPackageOf_ac {h : H} {v : Value} {l : List UInt8} (hv : Sl h v 1 (bys l)) (hn : l.length ≤ 1048576) : AC Tryz.prog 6 [v] h fun r h' => Ext h h' ∧ ∃ (A B : List (List UInt8)) (va vb : Value), r = .tuple #[va, vb] ∧ (∀ t ∈ A, t.length ≤ 9) ∧ A.length ≤ 10 ∧ Sl h' va 1 (strs A) ∧ (∀ t ∈ B, t.length ≤ 9) ∧ B.length ≤ 10 ∧ Sl h' vb 1 (strs B) := by
  refine w_spec_DrawPackageOf (by simp) ?_
  unfold b_spec_DrawPackageOf
  simp -implicitDefEqProofs only [go_sem]
  refine AC_of (drawStepsFor_ac hv hn) ?_
  rintro _ h1 - ⟨e, A, B, va, vb, rfl, q⟩
  simp -implicitDefEqProofs only [go_sem]
  exact ⟨e, A, B, va, vb, rfl, q⟩
end Go.Proofs.YthjbhdmjfakfaaaGreatDoor

set_option linter.unusedVariables false
set_option linter.unusedSimpArgs false
namespace Go.KH
open Go.RowKit Go.ChangeShapes

/-! ## Rows that list variables of the package -/
theorem trodVars_len {P : Program} {H' : Type} {enc : TypeId × Value → H'} {W : World} {sp : Nat → Bool} : ∀ {ns : List String} {gs : List (DataW H')} {ps : List MemPlace}, DataW.TrodVars enc P W sp ns gs ps → gs.length = ns.length
  | [], [], _, _ => rfl
  | [], _ :: _, _, h => h.elim
  | _ :: _, [], _, h => h.elim
  | _ :: _, _ :: _, _, ⟨_, _, _, _, _, _, _, _, _, _, h, _⟩ => by rw [List.length_cons, List.length_cons, trodVars_len h]
theorem law_returns_laid {Ck : Checked} {os : Os} {f : FuncId} {fn : Func} {s : ChangeSpec} {H' : Type} {enc : TypeId × Value → H'} {rt : TypeId} {laid : List (String × DataW Unit)} (own : ownKnob Ck.prog.godebug = none) (started : os.Started) (noInit : Ck.prog.inits.idxOf? f = none)
    (hfn : Ck.prog.funcs[f]? = some fn)
    (witness : ∃ (w : World) (tape : Tape) (i : Input), w.os = os ∧ (w.forCall tape i).Shaped Ck.prog ∧ i.vars = [] ∧ Input.okWide Ck.prog (w.forCall tape i) .any w.heap.size f i ∧
      ((s.pre enc Ck.prog fn [] false (w.forCall tape i).memory i.args ∧ laidMetH Ck.prog laid (w.forCall tape i).memory) ∧ sizedMet enc Ck.prog fn (OpenSpec.ofChange s) false (w.forCall tape i).memory i.args) ∧ ({} : Assume).holds Ck.prog (lone (Frame.enter Ck.prog f i.args .normal) [] (w.forCall tape i)))
    (hl : laidOutB Ck.prog = true) (hread : ∀ t ∈ fn.params.toList, Ck.prog.readableRec t = true ∧ t < Ck.prog.types.size) (hres : fn.resultTypes = #[rt]) (hrt : Ck.prog.underlying rt = some .bool)
    (hvars : varsRowed Ck.prog s.vars = true) (hspec : ∀ ds gs : List (DataW H'), ds.length = fn.params.toList.length → gs.length = s.vars.length → s.fn H' (ds ++ gs) = { results := [.lit (.bool true)], args := ds, vars := gs })
    (law : ∀ (W : World) (args : List Value) (ds : List (DataW H')) (ps : List MemPlace), DataW.TrodAll enc Ck.prog W 0 (fun _ => true) true fn.params.toList args ds ps → (∀ (j : Nat) t v, fn.params[j]? = some t → args[j]? = some v → ∃ base, Value.okWide Ck.prog W .any base t v) → laidMetH Ck.prog laid W →
      AC Ck.prog f args (h0 W) fun r _ => r = .bool true) :
    ReturnsInHanded {} Ck os f .any (fun w args => (s.pre enc Ck.prog fn [] false w args ∧ laidMetH Ck.prog laid w) ∧ sizedMet enc Ck.prog fn (OpenSpec.ofChange s) false w args) (s.post enc Ck.prog fn false true false false) := by
  refine returnsInHanded_of_change_and (X := fun w _ => laidMetH Ck.prog laid w) (fun _ _ _ hh h => laidMetH.of_heap hh h) own started noInit hfn witness ?_
  intro W base args ds gs before hval hW _ _ hX _
  have hW' := hW
  obtain ⟨p, q, hA, hV, rfl, hfz, hnd⟩ := hW
  have hgl := trodVars_len hV
  have hc := law W args.toList ds p hA (fun j t v ht hv => ⟨base, hval j t v ht (by simpa using hv)⟩) hX
  have := hc.2 W W (rel_h0 W)
  rw [Array.toArray_toList] at this
  refine this.mono ?_
  rintro e W' ⟨v, h', rfl, hb, hr, rfl⟩
  have hbel : Below W.heap.size W W' := by have := hr.below; rw [hb] at this; exact this
  obtain ⟨e1, e2, hA'⟩ := trodAll_below hl hbel _ _ _ _ hread hA
  refine ⟨_, rfl, ds, gs, p ++ q, [], p, q, hW', ?_, ?_, ?_, hbel.frame _, fun h => by cases h⟩
  · rw [hspec ds gs e1 hgl, hres]
    exact trodAll_mk1 (shut_bool hrt _)
  · rw [hspec ds gs e1 hgl]; exact hA'
  · rw [hspec ds gs e1 hgl]; exact Below.trodVars hl hbel hvars hV
/-- A law's row out of a contract of its arguments, where variables are laid. -/
theorem law_row_laid {Ck : Checked} {os : Os} {f : FuncId} {fn : Func} {s : ChangeSpec} {H' : Type} {enc : TypeId × Value → H'} {rt : TypeId} {laid : List (String × DataW Unit)} (T : H → Prop) (ss : List AS) (own : ownKnob Ck.prog.godebug = none) (started : os.Started) (noInit : Ck.prog.inits.idxOf? f = none)
    (hfn : Ck.prog.funcs[f]? = some fn)
    (witness : ∃ (w : World) (tape : Tape) (i : Input), w.os = os ∧ (w.forCall tape i).Shaped Ck.prog ∧ i.vars = [] ∧ Input.okWide Ck.prog (w.forCall tape i) .any w.heap.size f i ∧
      ((s.pre enc Ck.prog fn [] false (w.forCall tape i).memory i.args ∧ laidMetH Ck.prog laid (w.forCall tape i).memory) ∧ sizedMet enc Ck.prog fn (OpenSpec.ofChange s) false (w.forCall tape i).memory i.args) ∧ ({} : Assume).holds Ck.prog (lone (Frame.enter Ck.prog f i.args .normal) [] (w.forCall tape i)))
    (hl : laidOutB Ck.prog = true) (hread : fn.params.toList.all (fun t => Ck.prog.readableRec t && decide (t < Ck.prog.types.size)) = true) (hres : fn.resultTypes = #[rt]) (hrt : Ck.prog.underlying rt = some .bool)
    (hvars : varsRowed Ck.prog s.vars = true) (hspec : ∀ ds gs : List (DataW H'), ds.length = fn.params.toList.length → gs.length = s.vars.length → s.fn H' (ds ++ gs) = { results := [.lit (.bool true)], args := ds, vars := gs })
    (hsh : fn.params.toList.map (shA Ck.prog) = ss.map some) (htab : ∀ W, laidMetH Ck.prog laid W → T (h0 W))
    (law : ∀ (h : H), T h → ∀ (args : List Value), okAs h ss args → AC Ck.prog f args h fun r _ => r = .bool true) :
    ReturnsInHanded {} Ck os f .any (fun w args => (s.pre enc Ck.prog fn [] false w args ∧ laidMetH Ck.prog laid w) ∧ sizedMet enc Ck.prog fn (OpenSpec.ofChange s) false w args) (s.post enc Ck.prog fn false true false false) :=
  law_returns_laid own started noInit hfn witness hl (fun t ht => by
      have := List.all_eq_true.1 hread t ht
      simpa using this) hres hrt hvars hspec
    (fun W args ds ps hA hv hX => law (h0 W) (htab W hX) args (okAs_of _ ss W H' enc args ds ps hsh hA (fun j t v ht hv' => hv j t v (by simpa using ht) hv')))
/-- What a laid table of words is in the memory. -/
theorem laid_cells {P : Program} {W : World} {g n : Nat} {name : String} {t e : TypeId} {cs : Array Value} {fuel : Nat} {zs : List Int} {p : List MemPlace} {k : IntKind} (hg : P.globalNamed name = some g) (hv : W.var? P name = some cs)
    (ht : P.underlying t = some (.array n e)) (he : P.underlying e = some (.int k)) (hce : P.cellsOf e = 1) (hct : P.cellsOf t = n)
    (hd : DataW.trod (fun _ => ()) P W 0 (fun _ => true) false fuel t cs.toList = some (Lib.tabData k zs, p)) : ∃ z, (h0 W).get g = some ⟨zs.map fun z => Value.int k z, z⟩ := by
  have h1 := Lib.cells_of_tab ht he hce hct hd
  simp only [World.var?, hg, Option.bind_some] at hv
  split at hv
  · rename_i c T fz hc
    cases hv
    refine ⟨cs.size, ?_⟩
    simp only [h0, hc, h1]
  · cases hv
end Go.KH

set_option linter.unusedVariables false
set_option linter.unusedSimpArgs false
set_option maxRecDepth 100000
namespace Go.Proofs.YthjbhdmjfakfaaaGreatDoor
open Go.KH Go.RowKit

/-! ## The tables, as the rows list them -/
abbrev laidL : List (String × DataW Unit) := [("loop.example/g00668/impl.digestStart", Rows.laid_loop_example_g00668_impl_digestStart), ("loop.example/g00668/impl.digestRounds", Rows.laid_loop_example_g00668_impl_digestRounds)]
theorem start_tab : (Rows.laid_loop_example_g00668_impl_digestStart : DataW Unit) = Lib.tabData .u32 (shaStart.list.map fun x => (x.toNat : Int)) := by rfl
theorem keys_tab : (Rows.laid_loop_example_g00668_impl_digestRounds : DataW Unit) = Lib.tabData .u32 (keysL.map fun x => (x.toNat : Int)) := by rfl
theorem flat_w (l : List (BitVec 32)) : (l.map fun x => (x.toNat : Int)).map (fun z => Value.int .u32 z) = (wsV l).flatten := by
  induction l with
  | nil => rfl
  | cons x l ih => simp only [List.map_cons, List.flatten_cons, ih]; rfl
theorem tabs_of {W : World} (h : laidMetH Tryz.prog laidL W) : Tabs (h0 W) := by
  rw [MakeChecks.laidMetH_plain _ _ _ (by kernel_rfl)] at h
  obtain ⟨ps, ⟨g0, t0, cs0, f0, p0, q0, hg0, ht0, hv0, hd0, ⟨g1, t1, cs1, f1, p1, q1, hg1, ht1, hv1, hd1, _, _⟩, _⟩, _, _⟩ := h
  obtain rfl := Option.some.inj ((show Tryz.prog.globalNamed "loop.example/g00668/impl.digestStart" = some 0 by kernel_rfl).symm.trans hg0)
  obtain rfl := Option.some.inj ((show Tryz.prog.globalNamed "loop.example/g00668/impl.digestRounds" = some 1 by kernel_rfl).symm.trans hg1)
  obtain rfl := Option.some.inj ((show (Tryz.prog.globals[0]?).map (·.type) = some 198 by kernel_rfl).symm.trans ht0)
  obtain rfl := Option.some.inj ((show (Tryz.prog.globals[1]?).map (·.type) = some 253 by kernel_rfl).symm.trans ht1)
  rw [start_tab] at hd0
  rw [keys_tab] at hd1
  have u32 : Tryz.prog.underlying 197 = some (.int .u32) := by kernel_rfl
  have c32 : Tryz.prog.cellsOf 197 = 1 := by kernel_rfl
  obtain ⟨z0, k0⟩ := laid_cells hg0 hv0 (show Tryz.prog.underlying 198 = some (.array 8 197) by kernel_rfl) u32 c32 (by kernel_rfl) hd0
  obtain ⟨z1, k1⟩ := laid_cells hg1 hv1 (show Tryz.prog.underlying 253 = some (.array 64 197) by kernel_rfl) u32 c32 (by kernel_rfl) hd1
  rw [flat_w] at k0 k1
  have s0 := Sl.of_get (c := 8) k0 (Nat.le_of_eq rfl) (Wid.map fun _ => rfl)
  have s1 := Sl.of_get (c := 64) k1 (Nat.le_of_eq rfl) (Wid.map fun _ => rfl)
  exact ⟨s0, s1, trivial⟩
/-- The door's own heap meets the condition. -/
theorem door_met (os : Os) (args : Array Value) : laidMetH Tryz.prog laidL ((World.doorLaid Tryz.prog 400 os).forCall (fun _ _ => 0) ⟨#[], args, []⟩).memory :=
  laidMetH_of_parts3 (fuel := 8) (laidMet_of_run' 8 (by kernel_rfl) (by kernel_rfl)) (by kernel_rfl) (by kernel_rfl)
end Go.Proofs.YthjbhdmjfakfaaaGreatDoor

set_option linter.unusedVariables false
set_option linter.unusedSimpArgs false
set_option maxRecDepth 100000
namespace Go.Proofs.YthjbhdmjfakfaaaGreatDoor
open Go.KH

/-! ## What the laws draw: images and steps -/
def b_laws_lwTexts : C := (jo [q 4 (.mv (.c (.bool false)))]
 (.seq (jo [jm 6 0, q 7 (.len (.t 6)), jm 8 1, q 9 (.len (.t 8)), jb 10 .neq 7 9]
 (.cond (.t 10) (jo [q 4 (.mv (.c (.bool false)))]
 .ret) .skip))
 (.seq (jo [q 5 (.mv (.c (i64 0)))]
 (.block 0 (.loop (.seq (jo [jm 11 5, jm 12 0, q 13 (.len (.t 12)), jb 14 .lss 11 13]
 (.cond (.t 14) .skip (.exit 0)))
 (.seq (.block 1 (.seq (.dops true (.tk (jm 17 0) (.tk (jm 18 5) (.tk (q 19 (.idx 1 (.t 17) (.t 18))) (.tk (jl 20 19) (.tk (jm 21 1) (.tk (jm 22 5) (.tk (q 23 (.idx 1 (.t 21) (.t 22))) (.tk (jl 24 23) (.tk (jb 25 .neq 20 24) .nil))))))))))
 (.cond (.t 25) (jo [q 4 (.mv (.c (.bool false)))]
 .ret) .skip)))
 (.ops [jm 15 5, jk 16 .add 15 1, jm 5 16]))))))
 (jo [q 4 (.mv (.c (.bool true)))]
 .ret))))
theorem w_laws_lwTexts : Wk Tryz.prog 22 26 [.tmp 4] b_laws_lwTexts := Wk.of mixedOrders Tryz.func22 (by kernel_rfl) (by kernel_rfl)

theorem lwTexts_pc {h : H} {v1 v2 : Value} {l1 l2 : List (List UInt8)} (hv : Sl h v1 1 (strs l1)) (hu : Sl h v2 1 (strs l2)) (hn : l1.length ≤ 1048576) : PC Tryz.prog 22 [v1, v2] h (.bool (decide (l1 = l2))) := by
  obtain ⟨a, c, b, o, rfl, hc, r2, r3⟩ := hv
  obtain ⟨a', c', b', o', rfl, hc', q2, q3⟩ := hu
  have e1 : (strs l1).length = l1.length := by simp
  have e2 : (strs l2).length = l2.length := by simp
  rw [e1] at r2
  rw [e2] at q2
  skip
  by_cases hl : l1.length = l2.length
  rotate_left
  · refine w_laws_lwTexts (by simp) ?_
    unfold b_laws_lwTexts
    simp -implicitDefEqProofs only [go_sem, hl, show ¬ ((l1.length : Int) = (l2.length : Int)) by omega, e1, e2]
    exact dec_f fun h => hl (by rw [h])
  have hl0 : decide ((l1.length : Int) = (l2.length : Int)) = true := decide_eq_true (by omega)
  have hl1 : ((l1.length : Int) ≠ (l2.length : Int)) = False := eq_false fun h => h (by omega)
  refine w_laws_lwTexts (by simp) ?_
  unfold b_laws_lwTexts
  simp -implicitDefEqProofs only [go_sem, hl0, hl1, e1, e2]
  refine loopW_of (fun m f h' => ∃ k, m + k = l1.length ∧ h' = h ∧ f 0 = .slice a l1.length c ∧ f 1 = .slice a' l2.length c' ∧ f 5 = i64 k ∧ l1.take k = l2.take k) l1.length
    ⟨0, by simp, rfl, by simp -implicitDefEqProofs only [go_sem, e1, e2], by simp -implicitDefEqProofs only [go_sem, e1, e2], by simp -implicitDefEqProofs only [go_sem, e1, e2]; rfl, by simp⟩ ?_
  rintro m f h' ⟨k, hm, rfl, f0, f1, f5, ht⟩
  skip
  by_cases hk : k < l1.length
  · have hk2 : k < l2.length := by omega
    have d1 := r3 k _ (show (strs l1)[k]? = some [str l1[k]] by simp [hk])
    have d2 := q3 k _ (show (strs l2)[k]? = some [str l2[k]] by simp [hk2])
    have hs : l1.take (k + 1) = l2.take (k + 1) ↔ l1[k] = l2[k] := by
      rw [List.take_succ_eq_append_getElem hk, List.take_succ_eq_append_getElem hk2, ht]
      exact ⟨fun h => (List.cons.inj (List.append_cancel_left h)).1, fun h => by rw [h]⟩
    by_cases he : l1[k] = l2[k]
    · skip
      simp -implicitDefEqProofs only [go_sem, hk, hk2, r2, q2, d1, d2, he, wrap_i64 (show -(9223372036854775808 : Int) ≤ ((k : Int) + 1) by omega) (show ((k : Int) + 1) < 9223372036854775808 by omega), e1, e2, f0, f1, f5, Int.ofNat_lt, Int.natCast_nonneg]
      exact ⟨m - 1, by omega, h', Ext.refl _, k + 1, by omega, rfl, rfl, hs.2 he⟩
    · skip
      simp -implicitDefEqProofs only [go_sem, hk, hk2, r2, q2, d1, d2, he, e1, e2, f0, f1, f5, Int.ofNat_lt, Int.natCast_nonneg]
      exact dec_f fun h => he (hs.1 (by rw [h]))
  · have e : k = l1.length := by omega
    subst e
    simp -implicitDefEqProofs only [go_sem, Nat.lt_irrefl, e1, e2, f0, f1, f5, Int.ofNat_lt, Int.natCast_nonneg]
    exact dec_t (by rw [List.take_length, hl, List.take_length] at ht; exact ht)
end Go.Proofs.YthjbhdmjfakfaaaGreatDoor

set_option linter.unusedVariables false
set_option linter.unusedSimpArgs false
set_option maxRecDepth 100000
namespace Go.Proofs.YthjbhdmjfakfaaaGreatDoor
open Go.KH

/-! ## Steps that lean on each other, drawn -/
end Go.Proofs.YthjbhdmjfakfaaaGreatDoor

set_option linter.unusedVariables false
set_option linter.unusedSimpArgs false
set_option maxRecDepth 100000
namespace Go.Proofs.YthjbhdmjfakfaaaGreatDoor
open Go.KH

/-! ## What the laws of two codes share -/
theorem bytes_of_rows2 (rows : List (List Value)) (h : ∀ r ∈ rows, fitsF [.int .u8] r) : ∃ l : List UInt8, rows = bys l := by
  obtain ⟨l, e, -⟩ := rows_of (fun b : UInt8 => [.int .u8 (b.toNat : Int)]) (fun _ => True) rows fun r hr => by
    obtain ⟨_, _, rfl, h1, h⟩ := fitsF_cons (h r hr)
    obtain rfl := fitsF_nil h
    obtain ⟨n, rfl, k1, k2⟩ := h1
    have m1 : IntKind.u8.min = 0 := rfl
    have m2 : IntKind.u8.max = 255 := rfl
    refine ⟨UInt8.ofNat n.toNat, ?_, trivial⟩
    have : ((UInt8.ofNat n.toNat).toNat : Int) = n := by simp; omega
    rw [this]
  exact ⟨l, e⟩
theorem okAs_codes {h : H} {args : List Value} (ha : okAs h [.one (.sl [.int .u8]), .one (.sl [.int .u8])] args) : ∃ (v w : Value) (l1 l2 : List UInt8), args = [v, w] ∧ Sl h v 1 (bys l1) ∧ Sl h w 1 (bys l2) := by
  obtain ⟨v, _, rfl, ⟨rows, hs, hf, hn⟩, a0⟩ := okAs_cons ha
  obtain ⟨w, _, rfl, ⟨rows2, hs2, hf2, hn2⟩, a1⟩ := okAs_cons a0
  obtain rfl := okAs_nil a1
  obtain ⟨l1, rfl⟩ := bytes_of_rows2 rows hf
  obtain ⟨l2, rfl⟩ := bytes_of_rows2 rows2 hf2
  exact ⟨v, w, l1, l2, rfl, hs, hs2⟩
end Go.Proofs.YthjbhdmjfakfaaaGreatDoor

set_option linter.unusedVariables false
set_option linter.unusedSimpArgs false
set_option maxRecDepth 100000
namespace Go.Proofs.YthjbhdmjfakfaaaGreatDoor
open Go.KH

/-! ## Steps held together, and places drawn, in the laws -/
def b_laws_lwAt : C := (jo [q 6 (.mv (.c (i64 0)))]
 (.seq (jo [jm 7 2, jk 8 .leq 7 1, jm 9 8, qg 10 9 false (.mv (.t 0)), qg 11 9 false (.len (.t 10)), qg 12 9 false (.bin .eql (.t 11) (.c (i64 0))), q 13 (.pick (.t 9) (.c (.bool true)) (.t 12))]
 (.cond (.t 13) (jo [q 6 (.mv (.c (i64 0)))]
 .ret) .skip))
 (jo [jm 14 0, jm 15 1, jm 16 0, q 17 (.len (.t 16)), jb 18 .rem 15 17, q 19 (.idx 1 (.t 14) (.t 18)), jl 20 19, q 21 (.cv .i64 (.t 20)), jm 22 2, jb 23 .rem 21 22, jm 6 23]
 .ret)))
theorem w_laws_lwAt : Wk Tryz.prog 21 24 [.tmp 6] b_laws_lwAt := Wk.of mixedOrders Tryz.func21 (by kernel_rfl) (by kernel_rfl)

theorem lwAt_pc {h : H} {v : Value} {l : List UInt8} {at' : Nat} {most : Int} (hv : Sl h v 1 (bys l)) (hn : l.length ≤ 1048576) (ha : at' ≤ 1000) (hm : in64 most) : ∃ k : Int, (0 ≤ k ∧ (1 < most → k < most) ∧ (most ≤ 1 → k = 0)) ∧ PC Tryz.prog 21 [v, i64 at', i64 most] h (i64 k) := by
  obtain ⟨a, c, b, o, rfl, hc, r2, r3⟩ := hv
  have e1 : (bys l).length = l.length := by simp [bys]
  rw [e1] at r2
  by_cases h1 : most ≤ 1
  · refine ⟨0, ⟨by omega, by omega, fun _ => rfl⟩, PC_of ?_⟩
    skip
    refine w_laws_lwAt (by simp) ?_
    unfold b_laws_lwAt
    simp -implicitDefEqProofs only [go_sem, h1, e1]
    exact Ext.refl _
  by_cases h0 : l.length = 0
  · refine ⟨0, ⟨by omega, by omega, fun _ => rfl⟩, PC_of ?_⟩
    skip
    refine w_laws_lwAt (by simp) ?_
    unfold b_laws_lwAt
    simp -implicitDefEqProofs only [go_sem, h1, h0, show ((0 : Nat) : Int) = 0 from rfl, e1, e1]
    exact Ext.refl _
  · have hlt := Nat.mod_lt at' (show l.length > 0 by omega)
    have hq : (at' : Int).tmod (l.length : Int) = ((at' % l.length : Nat) : Int) := by
      rw [Int.tmod_eq_emod_of_nonneg (by omega), ← Int.natCast_emod]
    have d := r3 (at' % l.length) [u8 (l[at' % l.length]).toNat] (by simp [bys, hlt])
    obtain ⟨x, hx⟩ : ∃ x : Nat, (l[at' % l.length]).toNat = x := ⟨_, rfl⟩
    have hx2 : x < 256 := by rw [← hx]; exact UInt8.toNat_lt _
    rw [hx] at d
    have hw : IntKind.i64.wrap (x : Int) = (x : Int) := wrap_i64 (by omega) (by omega)
    have h5 : (0 : Int) ≤ (x : Int).tmod most ∧ (x : Int).tmod most < most ∧ (x : Int).tmod most ≤ x := by
      rw [Int.tmod_eq_emod_of_nonneg (by omega)]
      exact ⟨Int.emod_nonneg _ (by omega), Int.emod_lt_of_pos _ (by omega), by
        have := Int.emod_add_mul_ediv (x : Int) most
        have h6 : 0 ≤ (x : Int) / most := Int.ediv_nonneg (by omega) (by omega)
        have h7 : 0 ≤ most * ((x : Int) / most) := Int.mul_nonneg (by omega) h6
        omega⟩
    refine ⟨(x : Int).tmod most, ⟨h5.1, fun _ => h5.2.1, fun h => absurd h h1⟩, PC_of ?_⟩
    have hw2 : IntKind.i64.wrap ((x : Int).tmod most) = (x : Int).tmod most := wrap_i64 (by omega) (by omega)
    skip
    refine w_laws_lwAt (by simp) ?_
    unfold b_laws_lwAt
    simp -implicitDefEqProofs only [go_sem, h1, show ¬ ((l.length : Int) = 0) by omega, hq, show ¬ (most = 0) by omega, Int.ofNat_lt, Int.natCast_nonneg, hlt, r2, d, hw, hw2, e1, e1, e1]
    exact Ext.refl _
end Go.Proofs.YthjbhdmjfakfaaaGreatDoor
