/- A helper of this seat's claims (the logic of the walks): what it shows is shown for every input that its statements name, on no other condition. -/
import Derived.Test.YthjbhdmjfakfaaaGreatDoorKC
import Derived.OpenVars
import Derived.LaidMore
import Derived.LaidHandle
import Derived.MakeChecks
import Derived.Lib.LaidTab
import Derived.Stop.Joined
import Derived.Test.YthjbhdmjfakfaaaGreatDoorCZa
import Derived.Test.YthjbhdmjfakfaaaGreatDoorRows
set_option linter.unusedVariables false
set_option linter.unusedSimpArgs false
namespace Go.KH
open Go.RowKit Go.ChangeShapes

/-! ## Rows that list variables of the package -/
theorem trodVars_len {P : Program} {H' : Type} {enc : TypeId × Value → H'} {W : World} {sp : Nat → Bool} : ∀ {ns : List String} {gs : List (DataW H')} {ps : List MemPlace}, DataW.TrodVars enc P W sp ns gs ps → gs.length = ns.length
  | [], [], _, _ => rfl
  | [], _ :: _, _, h => h.elim
  | _ :: _, [], _, h => h.elim
  | _ :: _, _ :: _, _, ⟨_, _, _, _, _, _, _, _, _, _, h, _⟩ => by rw [List.length_cons, List.length_cons, trodVars_len h]
theorem law_returns_laid {Ck : Checked} {os : Os} {f : FuncId} {fn : Func} {s : ChangeSpec} {H' : Type} {enc : TypeId × Value → H'} {rt : TypeId} {laid : List (String × DataW Unit)} (own : ownKnob Ck.prog.godebug = none) (started : os.Started) (noInit : Ck.prog.inits.idxOf? f = none)
    (hfn : Ck.prog.funcs[f]? = some fn)
    (witness : ∃ (w : World) (tape : Tape) (i : Input), w.os = os ∧ (w.forCall tape i).Shaped Ck.prog ∧ i.vars = [] ∧ Input.okWide Ck.prog (w.forCall tape i) .any w.heap.size f i ∧
      ((s.pre enc Ck.prog fn [] false (w.forCall tape i).memory i.args ∧ laidMetH Ck.prog laid (w.forCall tape i).memory) ∧ sizedMet enc Ck.prog fn (OpenSpec.ofChange s) false (w.forCall tape i).memory i.args) ∧ ({} : Assume).holds Ck.prog (lone (Frame.enter Ck.prog f i.args .normal) [] (w.forCall tape i)))
    (hl : laidOutB Ck.prog = true) (hread : ∀ t ∈ fn.params.toList, Ck.prog.readableRec t = true ∧ t < Ck.prog.types.size) (hres : fn.resultTypes = #[rt]) (hrt : Ck.prog.underlying rt = some .bool)
    (hvars : varsRowed Ck.prog s.vars = true) (hspec : ∀ ds gs : List (DataW H'), ds.length = fn.params.toList.length → gs.length = s.vars.length → s.fn H' (ds ++ gs) = { results := [.lit (.bool true)], args := ds, vars := gs })
    (law : ∀ (W : World) (args : List Value) (ds : List (DataW H')) (ps : List MemPlace), DataW.TrodAll enc Ck.prog W 0 (fun _ => true) true fn.params.toList args ds ps → (∀ (j : Nat) t v, fn.params[j]? = some t → args[j]? = some v → ∃ base, Value.okWide Ck.prog W .any base t v) → laidMetH Ck.prog laid W →
      AC Ck.prog f args (h0 W) fun r _ => r = .bool true) :
    ReturnsInHanded {} Ck os f .any (fun w args => (s.pre enc Ck.prog fn [] false w args ∧ laidMetH Ck.prog laid w) ∧ sizedMet enc Ck.prog fn (OpenSpec.ofChange s) false w args) (s.post enc Ck.prog fn false true false false) := by
  refine returnsInHanded_of_change_and (X := fun w _ => laidMetH Ck.prog laid w) (fun _ _ _ hh h => laidMetH.of_heap hh h) own started noInit hfn witness ?_
  intro W base args ds gs before hval hW _ _ hX _
  have hW' := hW
  obtain ⟨p, q, hA, hV, rfl, hfz, hnd⟩ := hW
  have hgl := trodVars_len hV
  have hc := law W args.toList ds p hA (fun j t v ht hv => ⟨base, hval j t v ht (by simpa using hv)⟩) hX
  have := hc.2 W W (rel_h0 W)
  rw [Array.toArray_toList] at this
  refine this.mono ?_
  rintro e W' ⟨v, h', rfl, hb, hr, rfl⟩
  have hbel : Below W.heap.size W W' := by have := hr.below; rw [hb] at this; exact this
  obtain ⟨e1, e2, hA'⟩ := trodAll_below hl hbel _ _ _ _ hread hA
  refine ⟨_, rfl, ds, gs, p ++ q, [], p, q, hW', ?_, ?_, ?_, hbel.frame _, fun h => by cases h⟩
  · rw [hspec ds gs e1 hgl, hres]
    exact trodAll_mk1 (shut_bool hrt _)
  · rw [hspec ds gs e1 hgl]; exact hA'
  · rw [hspec ds gs e1 hgl]; exact Below.trodVars hl hbel hvars hV
/-- A law's row out of a contract of its arguments, where variables are laid. -/
theorem law_row_laid {Ck : Checked} {os : Os} {f : FuncId} {fn : Func} {s : ChangeSpec} {H' : Type} {enc : TypeId × Value → H'} {rt : TypeId} {laid : List (String × DataW Unit)} (T : H → Prop) (ss : List AS) (own : ownKnob Ck.prog.godebug = none) (started : os.Started) (noInit : Ck.prog.inits.idxOf? f = none)
    (hfn : Ck.prog.funcs[f]? = some fn)
    (witness : ∃ (w : World) (tape : Tape) (i : Input), w.os = os ∧ (w.forCall tape i).Shaped Ck.prog ∧ i.vars = [] ∧ Input.okWide Ck.prog (w.forCall tape i) .any w.heap.size f i ∧
      ((s.pre enc Ck.prog fn [] false (w.forCall tape i).memory i.args ∧ laidMetH Ck.prog laid (w.forCall tape i).memory) ∧ sizedMet enc Ck.prog fn (OpenSpec.ofChange s) false (w.forCall tape i).memory i.args) ∧ ({} : Assume).holds Ck.prog (lone (Frame.enter Ck.prog f i.args .normal) [] (w.forCall tape i)))
    (hl : laidOutB Ck.prog = true) (hread : fn.params.toList.all (fun t => Ck.prog.readableRec t && decide (t < Ck.prog.types.size)) = true) (hres : fn.resultTypes = #[rt]) (hrt : Ck.prog.underlying rt = some .bool)
    (hvars : varsRowed Ck.prog s.vars = true) (hspec : ∀ ds gs : List (DataW H'), ds.length = fn.params.toList.length → gs.length = s.vars.length → s.fn H' (ds ++ gs) = { results := [.lit (.bool true)], args := ds, vars := gs })
    (hsh : fn.params.toList.map (shA Ck.prog) = ss.map some) (htab : ∀ W, laidMetH Ck.prog laid W → T (h0 W))
    (law : ∀ (h : H), T h → ∀ (args : List Value), okAs h ss args → AC Ck.prog f args h fun r _ => r = .bool true) :
    ReturnsInHanded {} Ck os f .any (fun w args => (s.pre enc Ck.prog fn [] false w args ∧ laidMetH Ck.prog laid w) ∧ sizedMet enc Ck.prog fn (OpenSpec.ofChange s) false w args) (s.post enc Ck.prog fn false true false false) :=
  law_returns_laid own started noInit hfn witness hl (fun t ht => by
      have := List.all_eq_true.1 hread t ht
      simpa using this) hres hrt hvars hspec
    (fun W args ds ps hA hv hX => law (h0 W) (htab W hX) args (okAs_of _ ss W H' enc args ds ps hsh hA (fun j t v ht hv' => hv j t v (by simpa using ht) hv')))
/-- What a laid table of words is in the memory. -/
theorem laid_cells {P : Program} {W : World} {g n : Nat} {name : String} {t e : TypeId} {cs : Array Value} {fuel : Nat} {zs : List Int} {p : List MemPlace} {k : IntKind} (hg : P.globalNamed name = some g) (hv : W.var? P name = some cs)
    (ht : P.underlying t = some (.array n e)) (he : P.underlying e = some (.int k)) (hce : P.cellsOf e = 1) (hct : P.cellsOf t = n)
    (hd : DataW.trod (fun _ => ()) P W 0 (fun _ => true) false fuel t cs.toList = some (Lib.tabData k zs, p)) : ∃ z, (h0 W).get g = some ⟨zs.map fun z => Value.int k z, z⟩ := by
  have h1 := Lib.cells_of_tab ht he hce hct hd
  simp only [World.var?, hg, Option.bind_some] at hv
  split at hv
  · rename_i c T fz hc
    cases hv
    refine ⟨cs.size, ?_⟩
    simp only [h0, hc, h1]
  · cases hv
end Go.KH

set_option linter.unusedVariables false
set_option linter.unusedSimpArgs false
set_option maxRecDepth 100000
namespace Go.Proofs.YthjbhdmjfakfaaaGreatDoor
open Go.KH Go.RowKit

/-! ## The tables, as the rows list them -/
abbrev laidL : List (String × DataW Unit) := [("loop.example/g00668/impl.digestStart", Rows.laid_loop_example_g00668_impl_digestStart), ("loop.example/g00668/impl.digestRounds", Rows.laid_loop_example_g00668_impl_digestRounds)]
theorem start_tab : (Rows.laid_loop_example_g00668_impl_digestStart : DataW Unit) = Lib.tabData .u32 (shaStart.list.map fun x => (x.toNat : Int)) := by rfl
theorem keys_tab : (Rows.laid_loop_example_g00668_impl_digestRounds : DataW Unit) = Lib.tabData .u32 (keysL.map fun x => (x.toNat : Int)) := by rfl
theorem flat_w (l : List (BitVec 32)) : (l.map fun x => (x.toNat : Int)).map (fun z => Value.int .u32 z) = (wsV l).flatten := by
  induction l with
  | nil => rfl
  | cons x l ih => simp only [List.map_cons, List.flatten_cons, ih]; rfl
theorem tabs_of {W : World} (h : laidMetH Tryz.prog laidL W) : Tabs (h0 W) := by
  rw [MakeChecks.laidMetH_plain _ _ _ (by kernel_rfl)] at h
  obtain ⟨ps, ⟨g0, t0, cs0, f0, p0, q0, hg0, ht0, hv0, hd0, ⟨g1, t1, cs1, f1, p1, q1, hg1, ht1, hv1, hd1, _, _⟩, _⟩, _, _⟩ := h
  obtain rfl := Option.some.inj ((show Tryz.prog.globalNamed "loop.example/g00668/impl.digestStart" = some 0 by kernel_rfl).symm.trans hg0)
  obtain rfl := Option.some.inj ((show Tryz.prog.globalNamed "loop.example/g00668/impl.digestRounds" = some 1 by kernel_rfl).symm.trans hg1)
  obtain rfl := Option.some.inj ((show (Tryz.prog.globals[0]?).map (·.type) = some 198 by kernel_rfl).symm.trans ht0)
  obtain rfl := Option.some.inj ((show (Tryz.prog.globals[1]?).map (·.type) = some 253 by kernel_rfl).symm.trans ht1)
  rw [start_tab] at hd0
  rw [keys_tab] at hd1
  have u32 : Tryz.prog.underlying 197 = some (.int .u32) := by kernel_rfl
  have c32 : Tryz.prog.cellsOf 197 = 1 := by kernel_rfl
  obtain ⟨z0, k0⟩ := laid_cells hg0 hv0 (show Tryz.prog.underlying 198 = some (.array 8 197) by kernel_rfl) u32 c32 (by kernel_rfl) hd0
  obtain ⟨z1, k1⟩ := laid_cells hg1 hv1 (show Tryz.prog.underlying 253 = some (.array 64 197) by kernel_rfl) u32 c32 (by kernel_rfl) hd1
  rw [flat_w] at k0 k1
  have s0 := Sl.of_get (c := 8) k0 (Nat.le_of_eq rfl) (Wid.map fun _ => rfl)
  have s1 := Sl.of_get (c := 64) k1 (Nat.le_of_eq rfl) (Wid.map fun _ => rfl)
  exact ⟨s0, s1, trivial⟩
/-- The door's own heap meets the condition. -/
theorem door_met (os : Os) (args : Array Value) : laidMetH Tryz.prog laidL ((World.doorLaid Tryz.prog 400 os).forCall (fun _ _ => 0) ⟨#[], args, []⟩).memory :=
  laidMetH_of_parts3 (fuel := 8) (laidMet_of_run' 8 (by kernel_rfl) (by kernel_rfl)) (by kernel_rfl) (by kernel_rfl)
end Go.Proofs.YthjbhdmjfakfaaaGreatDoor
