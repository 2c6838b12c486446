/- A helper of this seat's claims (contracts of the functions): what it shows is shown for every input that its statements name, on no other condition. -/
import Derived.Test.YthjbhdmjfakfaaaGreatDoorCW
set_option linter.unusedVariables false
set_option linter.unusedSimpArgs false
set_option maxRecDepth 100000
namespace Go.Proofs.YthjbhdmjfakfaaaGreatDoor
open Go.KH

theorem app0B {hh cur : H} {K : Value → H → Prop} {w by_ b : Nat} {rows : List (List Value)} (E : Ext hh cur) (hg : cur.get b = some ⟨[], 0⟩) (hn : hh.get b = none) (hb : cur.base ≤ b) (hw : Wid w rows) (h1 : rows.flatten.all Value.oneCell' = true) (hbd : rows.length * by_ ≤ 70368744177664)
  (hK : ∀ v' b' x, hh.get b' = none → (b' = b ∨ cur.get b' = none) → (∀ b2, ob v' = some b2 → b2 = b') → Own hh (cur.set b' x) v' w rows → Ext hh (cur.set b' x) → K v' (cur.set b' x)) : appW cur w by_ (some ⟨b, 0, none⟩, 0, 0) (rows.length, rows.flatten) K := by
 have o0 : Own hh cur (sl b 0 0 0) w [] := .inr ⟨b, 0, 0, rfl, Nat.le_refl _, hb, hn, hg, by simp, Wid.nil w⟩
 refine appW_ownB (h0 := hh) (rows := []) (new := rows) (fun c hc => E.none hc) o0 rfl hw h1 (by simpa using hbd) ?_ ?_
 ·intro v' b' x nb hb' hob o
  exact hK v' b' x nb (by rcases hb' with h | h; simp only [ob, Option.some.injEq] at h; exact .inl h.symm; exact .inr h) hob (by simpa using o) (E.set' nb _)
 ·intro hnew
  subst hnew
  have := hK (sl b 0 0 0) b ⟨[], 0⟩ hn (.inl rfl) (fun b2 h2 => by simpa [ob] using h2.symm)
  rw [H.set_id hg] at this
  exact this o0 E
def b_spec_l03Copy : C := (jo [⟨(some 1), none, .box (.t 0)⟩, ⟨(some 2), none, .alloc [nils, nils]⟩]
 (.seq (.dops true (.tk (jf 4 0 1) (.tk (jl 5 4) (.tk (jf 8 1 1) (.tk (jl 9 8) (.alt (⟨(some 3), none, .bsl 0 [] []⟩) (.alt (⟨(some 6), none, .app 1 16 (.t 3) (.t 5)⟩) (.sq (⟨(some 7), none, .bsl 0 [] []⟩) (.lt (⟨(some 10), none, .app 2 24 (.t 7) (.t 9)⟩) (.tk (q 11 (.build [nils, nils] [(0, 1, (.t 6)), (1, 1, (.t 10))])) (.lt (js 2 2 11) .nil)))) (⟨(some 7), none, .bsl 0 [] []⟩) (.sq (⟨(some 6), none, .app 1 16 (.t 3) (.t 5)⟩) (.lt (⟨(some 10), none, .app 2 24 (.t 7) (.t 9)⟩) (.tk (q 11 (.build [nils, nils] [(0, 1, (.t 6)), (1, 1, (.t 10))])) (.lt (js 2 2 11) .nil))))) (⟨(some 7), none, .bsl 0 [] []⟩) (.sq (⟨(some 3), none, .bsl 0 [] []⟩) (.sq (⟨(some 6), none, .app 1 16 (.t 3) (.t 5)⟩) (.lt (⟨(some 10), none, .app 2 24 (.t 7) (.t 9)⟩) (.tk (q 11 (.build [nils, nils] [(0, 1, (.t 6)), (1, 1, (.t 10))])) (.lt (js 2 2 11) .nil)))))))))))
 .ret))
theorem w_spec_l03Copy : Wk Tryz.prog 129 12 [.cell 2 true 2] b_spec_l03Copy := Wk.of mixedOrders Tryz.func129 (by kernel_rfl) (by kernel_rfl)

theorem l03Copy_ac {h : H} {vs vd : Value} {f : UFlash} (hv : FlR h f vs vd) (hs : f.fin1) : AC Tryz.prog 129 [.agg #[vs, vd]] h fun r h' => Ext h h' ∧ ∃ us ud, r = .agg #[us, ud] ∧ FlO h h' f us ud := by
 have o1 := hv.1.one
 have o2 := hv.2.one
 have l1 : (sects f.sec).length = f.sec.length := by simp
 have l2 : (f.dirty.map UDirty.cells).length = f.dirty.length := by simp
 obtain ⟨hs1, hs2⟩ := hs
 skip
 refine w_spec_l03Copy (by simp) ?_
 unfold b_spec_l03Copy
 simp -implicitDefEqProofs only [go_sem, o1, o2]
 intro b1 hb_b1 n_b1
 simp -implicitDefEqProofs only [go_sem, o1, o2, hb_b1]
 intro b2 hb_b2 m0_b2
 obtain ⟨z_b2_b1, y_b2_b1, n_b2⟩ := fne m0_b2
 simp only [H.set_base] at hb_b2
 have E0 := (Ext.set' (Ext.set' (Ext.refl h) n_b1 ⟨[vs, vd], 2⟩) n_b2 ⟨[nils, nils], 2⟩)
 simp -implicitDefEqProofs only [go_sem, o1, o2, hb_b1, hb_b2, z_b2_b1, y_b2_b1]
 generalize hH : (h.set b1 ⟨[vs, vd], 2⟩).set b2 ⟨[nils, nils], 2⟩ = hh at E0 ⊢
 have g2 : hh.get b2 = some ⟨[nils, nils], 2⟩ := by rw [← hH]; exact H.set_get_same _ _ _
 have hb2 : hh.base ≤ b2 := by rw [← hH]; simp only [H.set_base]; exact hb_b2
 have hvh := hv.ext E0
 have fin : ∀ {cur : H} {v1 v2 : Value}, FlO hh cur f v1 v2 → Ext hh cur → Ext h (cur.set b2 ⟨[v1, v2], 2⟩) ∧ ∃ us ud, Value.agg #[v1, v2] = .agg #[us, ud] ∧ FlO h (cur.set b2 ⟨[v1, v2], 2⟩) f us ud := fun o e => ⟨(E0.trans e).set' n_b2 _, _, _, rfl, (o.setK g2 _).back E0⟩
 skip
 have sr1 : ∀ {cur : H}, Ext hh cur → srcOf cur 1 vs = some ((sects f.sec).length, (sects f.sec).flatten) := fun e => (hvh.1.ext e).src (sects_wid _) (by decide)
 have sr2 : ∀ {cur : H}, Ext hh cur → srcOf cur 2 vd = some ((f.dirty.map UDirty.cells).length, (f.dirty.map UDirty.cells).flatten) := fun e => (hvh.2.ext e).src (dirty_wid _) (by decide)
 have pr : ∀ {cur : H} {v1 v2 : Value} {bB b' : Nat} {x : Ob}, Own hh cur v1 1 (sects f.sec) → ob v1 ≠ some bB → (b' = bB ∨ cur.get b' = none) → (∀ q, ob v2 = some q → q = b') → Own hh (cur.set b' x) v2 2 (f.dirty.map UDirty.cells) → FlO hh (cur.set b' x) f v1 v2 := fun {cur v1 v2 bB b' x} o1 ne hb' hob o2 => by
  have hn : ob v1 ≠ some b' := fun e => by
   rcases hb' with rfl | hb'
   ·exact ne e
   ·obtain ⟨_, _, z, hg⟩ := o1.ob_new e
    rw [hg] at hb'; cases hb'
  exact ⟨o1.setOb hn _, o2, fun q h1 h2 => hn (by rw [h1, hob q h2])⟩
 have obne : ∀ {cur : H} {v1 : Value} {bB : Nat}, Own hh cur v1 1 (sects f.sec) → cur.get bB = none → ob v1 ≠ some bB := fun o hn e => by
  obtain ⟨_, _, z, hg⟩ := o.ob_new e
  rw [hg] at hn; cases hn
 refine ⟨?_, ?_⟩
 ·intro bA hbA nA
  have eA := fun x => (Ext.refl hh).set nA x
  refine ⟨(eA _).2, ?_⟩
  simp -implicitDefEqProofs only [go_sem, sr1 (eA _), o1, o2]
  refine ⟨?_, ?_⟩
  ·refine app0B (eA _) (H.set_get_same _ _ _) nA hbA (sects_wid _) (sects_one _) (by rw [l1]; omega) ?_
   intro v1 b' x nb hb' hob w1 e1
   refine ⟨e1.2, ?_⟩
   simp -implicitDefEqProofs only [go_sem, o1, o2]
   intro bB hbB nB
   refine ⟨(e1.set nB _).2, ?_⟩
   have ne := obne w1 nB
   have w1' := w1.ext ((Ext.refl _).set nB ⟨[], 0⟩)
   simp -implicitDefEqProofs only [go_sem, sr2 (e1.set nB _), o1, o2]
   refine app0B (e1.set nB _) (H.set_get_same _ _ _) (e1.none nB) hbB (dirty_wid _) (dirty_one _) (by rw [l2]; omega) ?_
   intro v2 b2' y nb2 hb2' hob2 w2 e2
   have q1 := w1.sl.one
   have q2 := w2.sl.one
   have q3 := w1.sl.vcl
   have q4 := w2.sl.vcl
   have gg := e2.2.g b2 _ g2
   have hbb : (hh.set bA ⟨[], 0⟩).base ≤ b2 := hb2
   have F := pr w1' ne hb2' hob2 w2
   generalize hX : ((((hh.set bA ⟨[], 0⟩).set b' x).set bB ⟨[], 0⟩).set b2' y) = hx at e2 F gg ⊢
   have hbx : hx.base ≤ b2 := by rw [e2.1]; exact hb2
   simp -implicitDefEqProofs only [go_sem, q1, q2, q3, q4, stc_get gg, hbx, o1, o2]
   exact fin F e2
  ·intro bB hbB nB
   have eB := (eA ⟨[], 0⟩).set nB ⟨[], 0⟩
   refine ⟨eB.2, ?_⟩
   have hab : bB ≠ bA := fun e => by rw [e, H.set_get_same] at nB; cases nB
   have hab' : bA ≠ bB := fun e => hab e.symm
   have gB : ((hh.set bA ⟨[], 0⟩).set bB ⟨[], 0⟩).get bB = some ⟨[], 0⟩ := H.set_get_same _ _ _
   simp -implicitDefEqProofs only [go_sem, sr1 eB, o1, o2]
   refine app0B eB (by rw [H.set_get_ne _ _ _ _ hab']; exact H.set_get_same _ _ _) nA hbA (sects_wid _) (sects_one _) (by rw [l1]; omega) ?_
   intro v1 b' x nb hb' hob w1 e1
   refine ⟨e1.2, ?_⟩
   have hne : bB ≠ b' := fun e => by
    rcases hb' with h | h
    ·exact hab (by rw [e, h])
    ·rw [← e, gB] at h; cases h
   have ne : ob v1 ≠ some bB := fun e => hne (hob bB e)
   have gB' : (((hh.set bA ⟨[], 0⟩).set bB ⟨[], 0⟩).set b' x).get bB = some ⟨[], 0⟩ := by rw [H.set_get_ne _ _ _ _ hne]; exact gB
   simp -implicitDefEqProofs only [go_sem, sr2 e1, o1, o2]
   refine app0B e1 gB' ((eA ⟨[], 0⟩).none nB) hbB (dirty_wid _) (dirty_one _) (by rw [l2]; omega) ?_
   intro v2 b2' y nb2 hb2' hob2 w2 e2
   have q1 := w1.sl.one
   have q2 := w2.sl.one
   have q3 := w1.sl.vcl
   have q4 := w2.sl.vcl
   have gg := e2.2.g b2 _ g2
   have F := pr w1 ne hb2' hob2 w2
   generalize hX : (((hh.set bA ⟨[], 0⟩).set bB ⟨[], 0⟩).set b' x).set b2' y = hx at e2 F gg ⊢
   have hbx : hx.base ≤ b2 := by rw [e2.1]; exact hb2
   simp -implicitDefEqProofs only [go_sem, q1, q2, q3, q4, stc_get gg, hbx, o1, o2]
   exact fin F e2
 ·intro bB hbB nB
  have eB := fun x => (Ext.refl hh).set nB x
  refine ⟨(eB _).2, ?_⟩
  simp -implicitDefEqProofs only [go_sem, o1, o2]
  intro bA hbA nA
  have eA := (eB ⟨[], 0⟩).set nA ⟨[], 0⟩
  refine ⟨eA.2, ?_⟩
  have hab' : bA ≠ bB := fun e => by rw [e, H.set_get_same] at nA; cases nA
  have hab : bB ≠ bA := fun e => hab' e.symm
  have gB : ((hh.set bB ⟨[], 0⟩).set bA ⟨[], 0⟩).get bB = some ⟨[], 0⟩ := by rw [H.set_get_ne _ _ _ _ hab]; exact H.set_get_same _ _ _
  simp -implicitDefEqProofs only [go_sem, sr1 eA, o1, o2]
  refine app0B eA (H.set_get_same _ _ _) ((eB ⟨[], 0⟩).none nA) hbA (sects_wid _) (sects_one _) (by rw [l1]; omega) ?_
  intro v1 b' x nb hb' hob w1 e1
  refine ⟨e1.2, ?_⟩
  have hne : bB ≠ b' := fun e => by
   rcases hb' with h | h
   ·exact hab (by rw [e, h])
   ·rw [← e, gB] at h; cases h
  have ne : ob v1 ≠ some bB := fun e => hne (hob bB e)
  have gB' : (((hh.set bB ⟨[], 0⟩).set bA ⟨[], 0⟩).set b' x).get bB = some ⟨[], 0⟩ := by rw [H.set_get_ne _ _ _ _ hne]; exact gB
  simp -implicitDefEqProofs only [go_sem, sr2 e1, o1, o2]
  refine app0B e1 gB' nB hbB (dirty_wid _) (dirty_one _) (by rw [l2]; omega) ?_
  intro v2 b2' y nb2 hb2' hob2 w2 e2
  have q1 := w1.sl.one
  have q2 := w2.sl.one
  have q3 := w1.sl.vcl
  have q4 := w2.sl.vcl
  have gg := e2.2.g b2 _ g2
  have F := pr w1 ne hb2' hob2 w2
  generalize hX : (((hh.set bB ⟨[], 0⟩).set bA ⟨[], 0⟩).set b' x).set b2' y = hx at e2 F gg ⊢
  have hbx : hx.base ≤ b2 := by rw [e2.1]; exact hb2
  simp -implicitDefEqProofs only [go_sem, q1, q2, q3, q4, stc_get gg, hbx, o1, o2]
  exact fin F e2
end Go.Proofs.YthjbhdmjfakfaaaGreatDoor