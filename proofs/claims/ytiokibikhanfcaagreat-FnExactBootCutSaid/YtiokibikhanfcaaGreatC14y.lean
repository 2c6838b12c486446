/- A helper of this seat's claims (contracts of the functions): what it shows is shown for every input that its statements name, on no other condition. -/
import Derived.Test.YtiokibikhanfcaaGreatC14x
import Derived.Test.YtiokibikhanfcaaGreatCK
set_option linter.unusedVariables false
set_option linter.unusedSimpArgs false
set_option maxRecDepth 100000
namespace Go.Proofs.YtiokibikhanfcaaGreat
open Go.KH

/-! ## A start that is cut -/
theorem Box.of2 {h0 h1 h : H} {b : Nat} {f : UFlash} {vs vd : Value} {x : Ob} (o : FlO h1 h f vs vd) (e : Ext h0 h1) (g : h1.get b = some x) (n : h0.get b = none) (hb : h.base ≤ b) (e2 : Ext h1 h) : Box h0 (h.set b ⟨[vs, vd], 2⟩) b f := by
  have n1 : ob vs ≠ some b := fun q => by rw [(o.1.ob_new q).1] at g; cases g
  have n2 : ob vd ≠ some b := fun q => by rw [(o.2.1.ob_new q).1] at g; cases g
  exact ⟨vs, vd, H.set_get_same _ _ _, (o.1.back e).setOb n1 _, (o.2.1.back e).setOb n2 _, o.2.2, n1, n2, n, hb, (e.trans e2).set' n _⟩
def cutF (f : UFlash) (l : List UAct) (n : Int) (fs : List Int) : UFlash := crashF (actsDo f (l.take n.toNat)) fs
def cutOut (m : UMach) (n : Int) (fs : List Int) : UMach × Int := if 400 < fs.length then (mach0, 2) else match stM m with | some s => if n < 0 then (mach0, 1) else (⟨m.blocks, cutF m.flash (bootActs m s) n fs⟩, 0) | none => (mach0, 1)
theorem crash_fin1 {f : UFlash} (h : flashOk f) (fs : List Int) : (crashF f fs).fin1 := by
  have := flashOk_small h
  unfold crashF
  exact ⟨by simp only [crashS_len]; omega, by simp⟩
theorem cut_ok {m : UMach} {s : UState} (hf : machFit m) (hok : stateOk s) (k : Nat) : flashOk (actsDo m.flash ((bootActs m s).take k)) := actsDo_ok _ hf.2.1 fun a ha => bootActs_ok hf hok a (List.mem_of_mem_take ha)
theorem cutOut_fin1 (m : UMach) (n : Int) (fs : List Int) : (cutOut m n fs).1.flash.fin1 := by
  have z : mach0.flash.fin1 := ⟨by simp [mach0], by simp [mach0]⟩
  unfold cutOut
  split
  · exact z
  · split
    · rename_i s hst
      split
      · exact z
      · exact crash_fin1 (cut_ok (stM_ok hst).1 (stM_ok hst).2 _) _
    · exact z
/-- impl.size[impl.Act] -/
def b_impl_size_impl_Act : C := (.seq (.ops [q 2 (.mv (.c (i64 0)))])
 (.seq (.ops [q 3 (.mv (.t 0)), q 4 (.len (.t 3)), q 2 (.mv (.t 4))])
 .ret))
theorem w_impl_size_impl_Act {args : List Value} {h : H} {Q : Value → H → Prop} (hl : args.length ≤ 5) (hk : wpc Tryz.prog b_impl_size_impl_Act (retw [.tmp 2] Q) (argsFr args) h) : AC Tryz.prog 122 args h Q :=
  AC.of_wpc mixedOrders Tryz.func122 (by kernel_rfl) (by kernel_rfl : prepF Tryz.prog Tryz.f122 = some ⟨5, [.tmp 2], b_impl_size_impl_Act⟩) hl hk

theorem sizeAct_pc {h : H} {v : Value} {rows : List (List Value)} {w : Nat} (hv : Sl h v w rows) : PC Tryz.prog 122 [v] h (i64 rows.length) := by
  obtain ⟨a, c, rfl⟩ := hv.shape
  refine PC_of ?_
  refine w_impl_size_impl_Act (by simp) ?_
  unfold b_impl_size_impl_Act
  simp -implicitDefEqProofs only [go_sem]
  exact Ext.refl _
/-- (impl.Machine).cut -/
def b_impl_Machine_cut : C := (.seq (.ops [⟨(some 4), none, .box (.t 0)⟩, ⟨(some 8), none, .alloc [(i64 0), nils, nils]⟩])
 (.seq (.dops true (.tk (q 10 (.fld 1 (.t 4))) (.tk (q 11 (.ld true 2 (.t 10))) (.tk (q 12 (.mv (.t 1))) (.tk (q 13 (.mv (.t 2))) (.tk (q 14 (.mv (.t 1))) (.alt (⟨(some 15), none, .call (.c (.func (.func 122) #[] #[])) [(.t 14)]⟩) (.tk (q 16 (.mn (.t 13) (.t 15))) (.tk (q 17 (.lsl 3 (.t 12) none (some (.t 16)))) (.alt (⟨(some 18), none, .call (.c (.func (.func 59) #[] #[])) [(.t 11), (.t 17)]⟩) (.sq (⟨(some 9), none, .alloc [nils, nils]⟩) (.lt (⟨none, none, .st 2 (.t 9) (.t 18)⟩) .nil)) (⟨(some 9), none, .alloc [nils, nils]⟩) (.sq (⟨(some 18), none, .call (.c (.func (.func 59) #[] #[])) [(.t 11), (.t 17)]⟩) (.lt (⟨none, none, .st 2 (.t 9) (.t 18)⟩) .nil))))) (⟨(some 9), none, .alloc [nils, nils]⟩) (.sq (⟨(some 15), none, .call (.c (.func (.func 122) #[] #[])) [(.t 14)]⟩) (.tk (q 16 (.mn (.t 13) (.t 15))) (.tk (q 17 (.lsl 3 (.t 12) none (some (.t 16)))) (.sq (⟨(some 18), none, .call (.c (.func (.func 59) #[] #[])) [(.t 11), (.t 17)]⟩) (.lt (⟨none, none, .st 2 (.t 9) (.t 18)⟩) .nil))))))))))))
 (.seq (.ops [q 19 (.mv (.t 3)), ⟨(some 20), none, .call (.c (.func (.func 123) #[] #[])) [(.t 9), (.t 19)]⟩])
 (.seq (.ops [q 21 (.fld 0 (.t 4)), q 22 (.ld false 1 (.t 21)), q 23 (.ld true 2 (.t 9)), q 24 (.build [(i64 0), nils, nils] [(0, 1, (.t 22)), (1, 2, (.t 23))]), ⟨none, none, .st 3 (.t 8) (.t 24)⟩])
 .ret))))
theorem w_impl_Machine_cut {args : List Value} {h : H} {Q : Value → H → Prop} (hl : args.length ≤ 25) (hk : wpc Tryz.prog b_impl_Machine_cut (retw [.cell 8 true 3] Q) (argsFr args) h) : AC Tryz.prog 64 args h Q :=
  AC.of_wpc mixedOrders Tryz.func64 (by kernel_rfl) (by kernel_rfl : prepF Tryz.prog Tryz.f64 = some ⟨25, [.cell 8 true 3], b_impl_Machine_cut⟩) hl hk

set_option maxHeartbeats 1600000 in
theorem cut_ac {h : H} {cs : List Value} {va vf : Value} {m : UMach} {l : List UAct} {n : Int} {fs : List Int} (hv : RepR h (spMach m) cs) (hf : machFit m) (ha : Sl h va 3 (l.map UAct.cells)) (hl : ∀ a ∈ l, actOk m.flash.sec.length a) (hn : l.length ≤ 1000) (h0 : 0 ≤ n) (hs : Sl h vf 1 (ints fs)) (hin : ∀ x ∈ fs, in64 x) :
    AC Tryz.prog 64 [.agg cs.toArray, va, i64 n, vf] h fun r h' => Ext h h' ∧ ∃ us ud, r = .agg #[i64 m.blocks, us, ud] ∧ FlF h h' (cutF m.flash l n fs) us ud := by
  obtain ⟨vs, vd, rfl, fr⟩ := mach_r.1 hv
  have o4 := fr.1.one
  have o5 := fr.2.one
  have c4 : vcl vs = [vs] := fr.1.vcl
  have c5 : vcl vd = [vd] := fr.2.vcl
  have o6 := ha.one
  have o7 := hs.one
  have ll : (l.map UAct.cells).length = l.length := by simp
  obtain ⟨aa, ca, rfl⟩ := ha.shape
  rw [ll] at ha
  have hok : flashOk (actsDo m.flash (l.take n.toNat)) := actsDo_ok _ hf.2.1 fun a ha => hl a (List.mem_of_mem_take ha)
  have hcap : l.length ≤ ca := by
    obtain ⟨_, _, _, _, e, hc, _⟩ := ha
    simp only [Value.slice.injEq] at e
    rw [ll] at hc
    omega
  have emin : (if (l.length : Int) < n then (l.length : Int) else n).toNat = min n.toNat l.length := by split <;> omega
  have etk : l.take (min n.toNat l.length) = l.take n.toNat := by
    by_cases hh : n.toNat ≤ l.length
    · rw [Nat.min_eq_left hh]
    · rw [Nat.min_eq_right (by omega), List.take_length, List.take_of_length_le (by omega)]
  have b1 : (0 : Int) ≤ (if (l.length : Int) < n then (l.length : Int) else n) := by split <;> omega
  have b2' : (if (l.length : Int) < n then (l.length : Int) else n) ≤ (ca : Int) := by split <;> omega
  have acted : ∀ {hX : H}, Ext h hX → AC Tryz.prog 59 [.agg #[vs, vd], .slice aa (min n.toNat l.length) ca] hX fun r h' => Ext hX h' ∧ ∃ us ud, r = .agg #[us, ud] ∧ FlO hX h' (actsDo m.flash (l.take n.toNat)) us ud := fun e => by
    have ht := (ha.ext e).take (hi := min n.toNat l.length) (Nat.min_le_right _ _)
    rw [← List.map_take, etk] at ht
    exact actedO_ac (fr.ext e) ht hf.2.1 (fun a ha => hl a (List.mem_of_mem_take ha)) (by rw [List.length_take]; omega)
  skip
  refine w_impl_Machine_cut (by simp) ?_
  unfold b_impl_Machine_cut
  refine wpc_cut (fun f1 h1 => ∃ b4 b8, f1 4 = ptr b4 0 ∧ f1 8 = ptr b8 0 ∧ f1 1 = .slice aa l.length ca ∧ f1 2 = i64 n ∧ f1 3 = vf ∧ h1.get b4 = some ⟨[i64 m.blocks, vs, vd], 3⟩ ∧ h1.get b8 = some ⟨[i64 0, nils, nils], 3⟩ ∧ h1.base ≤ b8 ∧ h.get b8 = none ∧ Ext h h1) ?_ ?_
  · simp -implicitDefEqProofs only [go_sem, o4, o5, c4, c5, o6, o7, ll]
    intro b4 hb_b4 n_b4
    simp -implicitDefEqProofs only [go_sem, o4, o5, c4, c5, o6, o7, ll, hb_b4]
    intro b8 hb_b8 m0_b8
    obtain ⟨z_b8_b4, y_b8_b4, n_b8⟩ := fne m0_b8
    simp only [H.set_base] at hb_b8
    simp -implicitDefEqProofs only [go_sem, o4, o5, c4, c5, o6, o7, ll, hb_b4, hb_b8, z_b8_b4, y_b8_b4]
    exact ⟨b4, b8, rfl, rfl, by simp -implicitDefEqProofs only [go_sem, o4, o5, c4, c5, o6, o7, ll, hb_b4, hb_b8, z_b8_b4, y_b8_b4], by simp -implicitDefEqProofs only [go_sem, o4, o5, c4, c5, o6, o7, ll, hb_b4, hb_b8, z_b8_b4, y_b8_b4], hb_b8, n_b8, (((Ext.refl _).set' n_b4 _).set' n_b8 _)⟩
  skip
  rintro f1 hS ⟨b4, b8, q4, q8, q1, q2, q3, g4, g8, hb8, n8, E0⟩
  refine wpc_cut (fun f2 h2 => ∃ b9, f2 4 = ptr b4 0 ∧ f2 8 = ptr b8 0 ∧ f2 9 = ptr b9 0 ∧ f2 3 = vf ∧ Box hS h2 b9 (actsDo m.flash (l.take n.toNat))) ?_ ?_
  · simp -implicitDefEqProofs only [go_sem, q4, q8, q1, q2, q3, ldc_get g4, o4, o5, c4, c5, o6, o7, ll]
    refine ⟨?_, ?_⟩
    · refine (sizeAct_pc (ha.ext E0)).use ?_
      simp -implicitDefEqProofs only [go_sem, Sub.refl, b1, b2', emin, o4, o5, c4, c5, o6, o7, ll]
      refine ⟨?_, ?_⟩
      · refine AC_of (acted E0) ?_
        rintro _ h3 - ⟨e3, us, ud, rfl, o⟩
        refine ⟨e3.2, ?_⟩
        have p1 := o.1.sl.one
        have p2 := o.2.1.sl.one
        simp -implicitDefEqProofs only [go_sem, o4, o5, c4, c5, o6, o7, ll]
        intro b9 hb9 n9
        refine ⟨(e3.set n9 _).2, ?_⟩
        simp -implicitDefEqProofs only [go_sem, p1, p2, hb9, q4, q8, q3, o4, o5, c4, c5, o6, o7, ll]
        exact ⟨b9, rfl, Box.of o e3 n9 hb9⟩
      · intro b9 hb9 n9
        have e9 := (Ext.refl hS).set n9 ⟨[nils, nils], 2⟩
        refine ⟨e9.2, ?_⟩
        simp -implicitDefEqProofs only [go_sem, b1, b2', emin, o4, o5, c4, c5, o6, o7, ll]
        refine AC_of (acted (E0.trans e9)) ?_
        rintro _ h3 - ⟨e3, us, ud, rfl, o⟩
        refine ⟨(e9.trans e3).2, ?_⟩
        have p1 := o.1.sl.one
        have p2 := o.2.1.sl.one
        have g9 := e3.2.g b9 _ (H.set_get_same _ _ _)
        have hb9' : h3.base ≤ b9 := by rw [e3.1, H.set_base]; exact hb9
        simp -implicitDefEqProofs only [go_sem, p1, p2, hb9', stc_get g9, q4, q8, q3, o4, o5, c4, c5, o6, o7, ll]
        exact ⟨b9, rfl, Box.of2 o e9 (H.set_get_same _ _ _) n9 hb9' e3⟩
    · intro b9 hb9 n9
      have e9 := (Ext.refl hS).set n9 ⟨[nils, nils], 2⟩
      refine ⟨e9.2, ?_⟩
      simp -implicitDefEqProofs only [go_sem, o4, o5, c4, c5, o6, o7, ll]
      refine (sizeAct_pc (ha.ext (E0.trans e9))).use ?_
      refine ⟨e9.2, ?_⟩
      simp -implicitDefEqProofs only [go_sem, b1, b2', emin, o4, o5, c4, c5, o6, o7, ll]
      refine AC_of (acted (E0.trans e9)) ?_
      rintro _ h3 - ⟨e3, us, ud, rfl, o⟩
      refine ⟨(e9.trans e3).2, ?_⟩
      have p1 := o.1.sl.one
      have p2 := o.2.1.sl.one
      have g9 := e3.2.g b9 _ (H.set_get_same _ _ _)
      have hb9' : h3.base ≤ b9 := by rw [e3.1, H.set_base]; exact hb9
      simp -implicitDefEqProofs only [go_sem, p1, p2, hb9', stc_get g9, q4, q8, q3, o4, o5, c4, c5, o6, o7, ll]
      exact ⟨b9, rfl, Box.of2 o e9 (H.set_get_same _ _ _) n9 hb9' e3⟩
  rintro f2 h2 ⟨b9, r4, r8, r9, r3, B⟩
  simp -implicitDefEqProofs only [go_sem, r9, r3, o4, o5, c4, c5, o6, o7, ll]
  refine AC_of (crash_ac B (hs.ext E0) hok hin) ?_
  rintro r h3 - B3
  obtain ⟨ws, wd, g9, oo⟩ := Box.flO B3
  have e3 := Box.ext B3
  have g43 := e3.2.g b4 _ g4
  have g83 := e3.2.g b8 _ g8
  have hb83 : h3.base ≤ b8 := by rw [e3.1]; exact hb8
  have p1 := oo.1.sl.one
  have p2 := oo.2.1.sl.one
  have v1 := oo.1.sl.vcl
  have v2 := oo.2.1.sl.vcl
  simp -implicitDefEqProofs only [go_sem, r4, r8, r9, ldc_get g43, ldc_get g9, stc_get g83, hb83, p1, p2, v1, v2, o4, o5, c4, c5, o6, o7, ll]
  exact ⟨(E0.trans e3).set' n8 _, ws, wd, rfl, ((oo.setK g8 _).back E0).f⟩
/-- impl.BootCut -/
def b_impl_BootCut : C := (.seq (.ops [⟨(some 3), none, .box (.t 0)⟩, ⟨(some 6), none, .alloc [(i64 0), nils, nils, (i64 0)]⟩])
 (.seq (.ops [q 10 (.ld true 3 (.t 3)), ⟨(some 11), none, .call (.c (.func (.func 44) #[] #[])) [(.t 10)]⟩, q 9 (.mv (.t 11)), q 12 (.ext 0 (.t 9)), q 13 (.ext 1 (.t 9)), ⟨(some 7), none, .alloc [(i64 0), (i64 0), (i64 0), (i64 0), (i64 0), (str []), nils, nils]⟩, ⟨none, none, .st 8 (.t 7) (.t 12)⟩, q 8 (.mv (.t 13))])
 (.seq (.block 0 (.seq (.ops [q 15 (.mv (.t 2)), q 16 (.len (.t 15)), q 17 (.bin .gtr (.t 16) (.c (i64 400))), q 14 (.mv (.t 17))])
 (.cond (.t 14) (.seq (.ops [q 18 (.build [(i64 0), nils, nils, (i64 0)] [(3, 1, (.c (i64 2)))]), ⟨none, none, .st 4 (.t 6) (.t 18)⟩])
 .ret) (.seq (.ops [q 20 (.mv (.t 8)), q 21 (.un .not (.t 20)), q 22 (.mv (.t 21)), qg 23 22 false (.mv (.t 1)), qg 24 22 false (.bin .lss (.t 23) (.c (i64 0))), q 25 (.pick (.t 22) (.c (.bool true)) (.t 24)), q 19 (.mv (.t 25))])
 (.cond (.t 19) (.seq (.ops [q 26 (.build [(i64 0), nils, nils, (i64 0)] [(3, 1, (.c (i64 1)))]), ⟨none, none, .st 4 (.t 6) (.t 26)⟩])
 .ret) .skip)))))
 (.seq (.dops true (.tk (q 27 (.ld true 3 (.t 3))) (.tk (q 28 (.ld true 3 (.t 3))) (.tk (q 29 (.ld true 8 (.t 7))) (.tk (q 31 (.mv (.t 1))) (.tk (q 32 (.mv (.t 2))) (.sq (⟨(some 30), none, .call (.c (.func (.func 60) #[] #[])) [(.t 28), (.t 29)]⟩) (.sq (⟨(some 33), none, .call (.c (.func (.func 64) #[] #[])) [(.t 27), (.t 30), (.t 31), (.t 32)]⟩) (.tk (q 34 (.build [(i64 0), nils, nils, (i64 0)] [(0, 3, (.t 33))])) (.lt (⟨none, none, .st 4 (.t 6) (.t 34)⟩) .nil))))))))))
 .ret))))
theorem w_impl_BootCut {args : List Value} {h : H} {Q : Value → H → Prop} (hl : args.length ≤ 35) (hk : wpc Tryz.prog b_impl_BootCut (retw [.cell 6 true 4] Q) (argsFr args) h) : AC Tryz.prog 30 args h Q :=
  AC.of_wpc mixedOrders Tryz.func30 (by kernel_rfl) (by kernel_rfl : prepF Tryz.prog Tryz.f30 = some ⟨35, [.cell 6 true 4], b_impl_BootCut⟩) hl hk

set_option maxHeartbeats 1600000 in
theorem implBootCut_ac {h : H} {cs : List Value} {vf : Value} {m : UMach} {n : Int} {fs : List Int} (hv : RepR h (spMach m) cs) (hs : m.flash.fin1) (hf : Sl h vf 1 (ints fs)) (hin : ∀ x ∈ fs, in64 x) : AC Tryz.prog 30 [.agg cs.toArray, i64 n, vf] h fun r h' => Ext h h' ∧ ∃ cs', r = .agg cs'.toArray ∧ RepF h h' (spMachO (cutOut m n fs)) cs' := by
  have hv0 := hv
  obtain ⟨vs, vd, rfl, fr⟩ := mach_r.1 hv
  have o4 := fr.1.one
  have o5 := fr.2.one
  have c4 : vcl vs = [vs] := fr.1.vcl
  have c5 : vcl vd = [vd] := fr.2.vcl
  have lf : (ints fs).length = fs.length := by simp
  obtain ⟨af, cf, rfl⟩ := hf.shape
  rw [lf] at hf
  unfold cutOut
  skip
  refine w_impl_BootCut (by simp) ?_
  unfold b_impl_BootCut
  simp -implicitDefEqProofs only [go_sem, o4, o5, c4, c5, lf]
  intro b1 hb_b1 n_b1
  simp -implicitDefEqProofs only [go_sem, o4, o5, c4, c5, lf, hb_b1]
  intro b2 hb_b2 m0_b2
  obtain ⟨z_b2_b1, y_b2_b1, n_b2⟩ := fne m0_b2
  simp only [H.set_base] at hb_b2
  simp -implicitDefEqProofs only [go_sem, o4, o5, c4, c5, lf, hb_b1, hb_b2, z_b2_b1, y_b2_b1]
  refine AC_of (stateOf_ac (hv0.ext (((Ext.refl _).set' n_b1 _).set' n_b2 _)) hs) ?_
  rintro _ h2 - ⟨e2, cs2, rfl, F2⟩
  have l2 := F2.r.len
  have t2 := take_len l2
  have o2 := F2.r.one
  have g1 := e2.2.g b1 _ (by simp -implicitDefEqProofs only [go_sem, o4, o5, c4, c5, lf, hb_b1, hb_b2, z_b2_b1, y_b2_b1]; rfl)
  have g2 := e2.2.g b2 _ (by simp -implicitDefEqProofs only [go_sem, o4, o5, c4, c5, lf, hb_b1, hb_b2, z_b2_b1, y_b2_b1]; rfl)
  have n2 := n_b2
  have hbb : h2.base ≤ b2 := by rw [e2.1]; simp only [H.set_base]; exact hb_b2
  have E2 := ((((Ext.refl _).set' n_b1 _).set' n_b2 _)).trans e2
  skip
  simp -implicitDefEqProofs only [go_sem, l2, t2, o2, o4, o5, c4, c5, lf]
  intro b3 hb3 n3
  have z31 : (b1 = b3) = False := eq_false fun e => by rw [← e, g1] at n3; cases n3
  have z32 : (b2 = b3) = False := eq_false fun e => by rw [← e, g2] at n3; cases n3
  have y32 : (b3 = b2) = False := eq_false fun e => (of_eq_false z32) e.symm
  have e3 := (Ext.refl h2).set n3 ⟨cs2, 8⟩
  have E3 := E2.trans e3
  have G1 := e3.2.g b1 _ g1
  have G2 := e3.2.g b2 _ g2
  have bad : ∀ c, Ext h ((h2.set b3 ⟨cs2, 8⟩).set b2 ⟨[i64 0, nils, nils, i64 c], 4⟩) ∧ ∃ cs', Value.agg #[i64 0, nils, nils, i64 c] = .agg cs'.toArray ∧ RepF h ((h2.set b3 ⟨cs2, 8⟩).set b2 ⟨[i64 0, nils, nils, i64 c], 4⟩) (spMachO (mach0, c)) cs' := fun c => ⟨E3.set' n2 _, _, rfl, mach0_f _ _ _⟩
  have hb3b : (h2.set b3 ⟨cs2, 8⟩).base ≤ b2 := by rw [H.set_base]; exact hbb
  have GS3 : (h2.set b3 ⟨cs2, 8⟩).get b3 = some ⟨cs2, 8⟩ := H.set_get_same _ _ _
  generalize hH : h2.set b3 ⟨cs2, 8⟩ = hS at e3 E3 G1 G2 GS3 bad hb3b
  by_cases h4 : 400 < fs.length
  · rw [if_pos h4]
    simp -implicitDefEqProofs only [go_sem, l2, t2, o2, hb3, show (400 : Int) < (fs.length : Int) by omega, hH, stc_get G2, hb3b, o4, o5, c4, c5, lf]
    exact bad 2
  rw [if_neg h4]
  cases hst : stM m with
  | none =>
    simp -implicitDefEqProofs only [go_sem, l2, t2, o2, hb3, show ¬ (400 : Int) < (fs.length : Int) by omega, Option.isSome_none, hH, stc_get G2, hb3b, o4, o5, c4, c5, lf]
    exact bad 1
  | some s =>
    rw [hst] at F2
    simp only [Option.getD_some] at F2
    have hok := stM_ok hst
    have h25 := bootActs_len m hok.2
    by_cases hn : n < 0
    · simp only
      rw [if_pos hn]
      simp -implicitDefEqProofs only [go_sem, l2, t2, o2, hb3, show ¬ (400 : Int) < (fs.length : Int) by omega, Option.isSome_some, hH, stc_get G2, hb3b, hn, o4, o5, c4, c5, lf]
      exact bad 1
    simp only
    rw [if_neg hn]
    simp -implicitDefEqProofs only [go_sem, l2, t2, o2, hb3, show ¬ (400 : Int) < (fs.length : Int) by omega, Option.isSome_some, hH, hn, ldc_get G1, ldc_get GS3, o4, o5, c4, c5, lf]
    refine AC_of (bootActs_ac (hv0.ext E3) hok.1 (F2.r.ext e3) hok.2) ?_
    rintro v6 h6 - ⟨e6, ow⟩
    have E6 := E3.trans e6
    simp -implicitDefEqProofs only [go_sem, e6.2, ow.sl.vcl, o4, o5, c4, c5, lf]
    refine AC_of (cut_ac (hv0.ext E6) hok.1 ow.sl (bootActs_ok hok.1 hok.2) (by omega) (by omega) (hf.ext E6) hin) ?_
    rintro _ h7 - ⟨e7, us, ud, rfl, f7⟩
    have p1 := f7.1.sl.one
    have p2 := f7.2.1.sl.one
    have g27 := (e6.trans e7).2.g b2 _ G2
    have hb7 : h7.base ≤ b2 := by rw [(e6.trans e7).1]; exact hb3b
    simp -implicitDefEqProofs only [go_sem, (e6.trans e7).2, p1, p2, stc_get g27, hb7, o4, o5, c4, c5, lf]
    exact ⟨(E6.trans e7).set' n2 _, _, rfl, machO_f.2 ⟨us, ud, rfl, FlF.back (FlF.set f7 (e6.2.g b2 _ G2) _) E6⟩⟩
/-- spec.l14First -/
def b_spec_l14First : C := (.seq (.ops [q 4 (.mv (.c nils))])
 (.seq (.seq (.ops [q 5 (.mv (.t 1)), q 6 (.mv (.t 0)), q 7 (.len (.t 6)), q 8 (.bin .lss (.t 5) (.t 7))])
 (.cond (.t 8) (.seq (.ops [q 9 (.mv (.t 0)), q 10 (.mv (.t 1)), q 11 (.lsl 3 (.t 9) none (some (.t 10))), q 4 (.mv (.t 11))])
 .ret) .skip))
 (.seq (.ops [q 12 (.mv (.t 0)), q 4 (.mv (.t 12))])
 .ret)))
theorem w_spec_l14First {args : List Value} {h : H} {Q : Value → H → Prop} (hl : args.length ≤ 13) (hk : wpc Tryz.prog b_spec_l14First (retw [.tmp 4] Q) (argsFr args) h) : AC Tryz.prog 62 args h Q :=
  AC.of_wpc mixedOrders Tryz.func62 (by kernel_rfl) (by kernel_rfl : prepF Tryz.prog Tryz.f62 = some ⟨13, [.tmp 4], b_spec_l14First⟩) hl hk

theorem l14First_ac {h : H} {v : Value} {l : List UAct} {n : Int} (hv : Sl h v 3 (l.map UAct.cells)) (hn : 0 ≤ n) : AC Tryz.prog 62 [v, i64 n] h fun r h' => h = h' ∧ Sl h r 3 ((l.take n.toNat).map UAct.cells) := by
  have ll : (l.map UAct.cells).length = l.length := by simp
  obtain ⟨aa, ca, rfl⟩ := hv.shape
  rw [ll] at hv
  have hcap : l.length ≤ ca := by
    obtain ⟨_, _, _, _, e, hc, _⟩ := hv
    simp only [Value.slice.injEq] at e
    rw [ll] at hc
    omega
  refine w_spec_l14First (by simp) ?_
  unfold b_spec_l14First
  simp -implicitDefEqProofs only [go_sem, ll]
  by_cases h : n < (l.length : Int)
  · simp -implicitDefEqProofs only [go_sem, h, hn, show n ≤ (ca : Int) by omega]
    have := hv.take (hi := n.toNat) (by omega)
    rwa [← List.map_take] at this
  · rw [List.take_of_length_le (by omega)]
    simp -implicitDefEqProofs only [go_sem, h, ll]
    exact hv
/-- spec.BootCut -/
def b_spec_BootCut : C := (.seq (.ops [⟨(some 3), none, .box (.t 0)⟩, ⟨(some 6), none, .alloc [(i64 0), nils, nils, (i64 0)]⟩])
 (.seq (.seq (.ops [q 10 (.mv (.t 2)), q 11 (.len (.t 10)), q 12 (.bin .gtr (.t 11) (.c (i64 400)))])
 (.cond (.t 12) (.seq (.ops [q 13 (.build [(i64 0), nils, nils, (i64 0)] [(3, 1, (.c (i64 2)))]), ⟨none, none, .st 4 (.t 6) (.t 13)⟩])
 .ret) .skip))
 (.seq (.ops [q 15 (.ld true 3 (.t 3)), ⟨(some 16), none, .call (.c (.func (.func 41) #[] #[])) [(.t 15)]⟩, q 14 (.mv (.t 16)), q 17 (.ext 0 (.t 14)), q 18 (.ext 1 (.t 14)), ⟨(some 7), none, .alloc [(i64 0), (i64 0), (i64 0), (i64 0), (i64 0), (str []), nils, nils]⟩, ⟨none, none, .st 8 (.t 7) (.t 17)⟩, q 8 (.mv (.t 18))])
 (.seq (.seq (.ops [q 19 (.mv (.t 8)), q 20 (.un .not (.t 19)), q 21 (.mv (.t 20)), qg 22 21 false (.mv (.t 1)), qg 23 21 false (.bin .lss (.t 22) (.c (i64 0))), q 24 (.pick (.t 21) (.c (.bool true)) (.t 23))])
 (.cond (.t 24) (.seq (.ops [q 25 (.build [(i64 0), nils, nils, (i64 0)] [(3, 1, (.c (i64 1)))]), ⟨none, none, .st 4 (.t 6) (.t 25)⟩])
 .ret) .skip))
 (.seq (.dops true (.tk (q 26 (.fld 1 (.t 3))) (.tk (q 27 (.ld true 2 (.t 26))) (.tk (q 28 (.ld true 3 (.t 3))) (.tk (q 29 (.ld true 8 (.t 7))) (.tk (q 31 (.mv (.t 1))) (.alt (⟨(some 30), none, .call (.c (.func (.func 58) #[] #[])) [(.t 28), (.t 29)]⟩) (.alt (⟨(some 32), none, .call (.c (.func (.func 62) #[] #[])) [(.t 30), (.t 31)]⟩) (.alt (⟨(some 33), none, .call (.c (.func (.func 57) #[] #[])) [(.t 27), (.t 32)]⟩) (.tk (q 34 (.part true 0 2 (.t 33))) (.sq (⟨(some 9), none, .alloc [nils, nils]⟩) (.lt (⟨none, none, .st 2 (.t 9) (.t 34)⟩) .nil))) (⟨(some 9), none, .alloc [nils, nils]⟩) (.sq (⟨(some 33), none, .call (.c (.func (.func 57) #[] #[])) [(.t 27), (.t 32)]⟩) (.tk (q 34 (.part true 0 2 (.t 33))) (.lt (⟨none, none, .st 2 (.t 9) (.t 34)⟩) .nil)))) (⟨(some 9), none, .alloc [nils, nils]⟩) (.sq (⟨(some 32), none, .call (.c (.func (.func 62) #[] #[])) [(.t 30), (.t 31)]⟩) (.sq (⟨(some 33), none, .call (.c (.func (.func 57) #[] #[])) [(.t 27), (.t 32)]⟩) (.tk (q 34 (.part true 0 2 (.t 33))) (.lt (⟨none, none, .st 2 (.t 9) (.t 34)⟩) .nil))))) (⟨(some 9), none, .alloc [nils, nils]⟩) (.sq (⟨(some 30), none, .call (.c (.func (.func 58) #[] #[])) [(.t 28), (.t 29)]⟩) (.sq (⟨(some 32), none, .call (.c (.func (.func 62) #[] #[])) [(.t 30), (.t 31)]⟩) (.sq (⟨(some 33), none, .call (.c (.func (.func 57) #[] #[])) [(.t 27), (.t 32)]⟩) (.tk (q 34 (.part true 0 2 (.t 33))) (.lt (⟨none, none, .st 2 (.t 9) (.t 34)⟩) .nil))))))))))))
 (.seq (.dops true (.tk (q 35 (.fld 0 (.t 3))) (.tk (q 36 (.ld false 1 (.t 35))) (.tk (q 37 (.ld true 2 (.t 9))) (.tk (q 38 (.mv (.t 2))) (.sq (⟨(some 39), none, .call (.c (.func (.func 63) #[] #[])) [(.t 37), (.t 38)]⟩) (.tk (q 40 (.build [(i64 0), nils, nils] [(0, 1, (.t 36)), (1, 2, (.t 39))])) (.tk (q 41 (.build [(i64 0), nils, nils, (i64 0)] [(0, 3, (.t 40))])) (.lt (⟨none, none, .st 4 (.t 6) (.t 41)⟩) .nil)))))))))
 .ret))))))
theorem w_spec_BootCut {args : List Value} {h : H} {Q : Value → H → Prop} (hl : args.length ≤ 42) (hk : wpc Tryz.prog b_spec_BootCut (retw [.cell 6 true 4] Q) (argsFr args) h) : AC Tryz.prog 28 args h Q :=
  AC.of_wpc mixedOrders Tryz.func28 (by kernel_rfl) (by kernel_rfl : prepF Tryz.prog Tryz.f28 = some ⟨42, [.cell 6 true 4], b_spec_BootCut⟩) hl hk

set_option maxHeartbeats 1600000 in
theorem specBootCut_ac {h : H} {cs : List Value} {vf : Value} {m : UMach} {n : Int} {fs : List Int} (hv : RepR h (spMach m) cs) (hs : m.flash.fin1) (hf : Sl h vf 1 (ints fs)) (hin : ∀ x ∈ fs, in64 x) : AC Tryz.prog 28 [.agg cs.toArray, i64 n, vf] h fun r h' => Ext h h' ∧ ∃ cs', r = .agg cs'.toArray ∧ RepF h h' (spMachO (cutOut m n fs)) cs' := by
  have hv0 := hv
  obtain ⟨vs, vd, rfl, fr⟩ := mach_r.1 hv
  have o4 := fr.1.one
  have o5 := fr.2.one
  have c4 : vcl vs = [vs] := fr.1.vcl
  have c5 : vcl vd = [vd] := fr.2.vcl
  have lf : (ints fs).length = fs.length := by simp
  obtain ⟨af, cf, rfl⟩ := hf.shape
  rw [lf] at hf
  unfold cutOut
  skip
  refine w_spec_BootCut (by simp) ?_
  unfold b_spec_BootCut
  refine wpc_cut (fun f1 h1 => ∃ b3 b6, f1 3 = ptr b3 0 ∧ f1 6 = ptr b6 0 ∧ f1 1 = i64 n ∧ f1 2 = .slice af fs.length cf ∧ h1.get b3 = some ⟨[i64 m.blocks, vs, vd], 3⟩ ∧ h1.get b6 = some ⟨[i64 0, nils, nils, i64 0], 4⟩ ∧ h1.base ≤ b6 ∧ h.get b6 = none ∧ Ext h h1) ?_ ?_
  · simp -implicitDefEqProofs only [go_sem, o4, o5, c4, c5, lf]
    intro b4 hb_b4 n_b4
    simp -implicitDefEqProofs only [go_sem, o4, o5, c4, c5, lf, hb_b4]
    intro b8 hb_b8 m0_b8
    obtain ⟨z_b8_b4, y_b8_b4, n_b8⟩ := fne m0_b8
    simp only [H.set_base] at hb_b8
    simp -implicitDefEqProofs only [go_sem, o4, o5, c4, c5, lf, hb_b4, hb_b8, z_b8_b4, y_b8_b4]
    exact ⟨b4, b8, rfl, rfl, by simp -implicitDefEqProofs only [go_sem, o4, o5, c4, c5, lf, hb_b4, hb_b8, z_b8_b4, y_b8_b4], by simp -implicitDefEqProofs only [go_sem, o4, o5, c4, c5, lf, hb_b4, hb_b8, z_b8_b4, y_b8_b4], hb_b8, n_b8, (((Ext.refl _).set' n_b4 _).set' n_b8 _)⟩
  skip
  rintro f1 h1 ⟨b3, b6, q3, q6, q1, q2, g3, g6, hb6, n6, E1⟩
  have bad : ∀ {hX : H} c, Ext h hX → Ext h (hX.set b6 ⟨[i64 0, nils, nils, i64 c], 4⟩) ∧ ∃ cs', Value.agg #[i64 0, nils, nils, i64 c] = .agg cs'.toArray ∧ RepF h (hX.set b6 ⟨[i64 0, nils, nils, i64 c], 4⟩) (spMachO (mach0, c)) cs' := fun c e => ⟨e.set' n6 _, _, rfl, mach0_f _ _ _⟩
  refine wpc_cut (fun f2 h2 => h2 = h1 ∧ ¬ 400 < fs.length ∧ f2 3 = ptr b3 0 ∧ f2 6 = ptr b6 0 ∧ f2 1 = i64 n ∧ f2 2 = .slice af fs.length cf) ?_ ?_
  · by_cases h4 : 400 < fs.length
    · rw [if_pos h4]
      simp -implicitDefEqProofs only [go_sem, q2, q6, show (400 : Int) < (fs.length : Int) by omega, stc_get g6, hb6, o4, o5, c4, c5, lf]
      exact bad 2 E1
    · simp -implicitDefEqProofs only [go_sem, q1, q2, q3, q6, show ¬ (400 : Int) < (fs.length : Int) by omega, o4, o5, c4, c5, lf]
      exact h4
  rintro f2 h2 ⟨rfl, h4, r3, r6, r1, r2⟩
  rw [if_neg h4]
  refine wpc_cut (fun f3 h3 => ∃ b7 cs2, f3 3 = ptr b3 0 ∧ f3 6 = ptr b6 0 ∧ f3 1 = i64 n ∧ f3 2 = .slice af fs.length cf ∧ f3 7 = ptr b7 0 ∧ f3 8 = .bool (stM m).isSome ∧ h3.get b7 = some ⟨cs2, 8⟩ ∧ StR h3 cs2 ((stM m).getD zeroS) ∧ Ext h2 h3) ?_ ?_
  · simp -implicitDefEqProofs only [go_sem, r3, ldc_get g3, o4, o5, c4, c5, lf]
    refine AC_of (l13State_ac (hv0.ext E1) hs) ?_
    rintro _ h4 - ⟨e4, cs2, rfl, F2⟩
    have l2 := F2.r.len
    have t2 := take_len l2
    have o2 := F2.r.one
    simp -implicitDefEqProofs only [go_sem, l2, t2, o2, r1, r2, r3, r6, o4, o5, c4, c5, lf]
    intro b7 hb7 n7
    simp -implicitDefEqProofs only [go_sem, l2, t2, o2, r1, r2, r3, r6, hb7, o4, o5, c4, c5, lf]
    exact ⟨b7, cs2, rfl, by rw [if_pos rfl], F2.r.ext ((Ext.refl _).set n7 _), e4.set n7 _⟩
  rintro f3 h3 ⟨b7, cs2, s3, s6, s1, s2, s7, s8, g7, SR, e3⟩
  have E3 := E1.trans e3
  have G3 := e3.2.g b3 _ g3
  have G6 := e3.2.g b6 _ g6
  have hb63 : h3.base ≤ b6 := by rw [e3.1]; exact hb6
  cases hst : stM m with
  | none =>
    rw [hst] at s8
    simp -implicitDefEqProofs only [go_sem, s1, s2, s3, s6, s7, s8, Option.isSome_none, stc_get G6, hb63, o4, o5, c4, c5, lf]
    exact bad 1 E3
  | some s =>
    rw [hst] at s8 SR
    simp only [Option.getD_some] at SR
    have hok := stM_ok hst
    have h25 := bootActs_len m hok.2
    simp only
    by_cases hn : n < 0
    · rw [if_pos hn]
      simp -implicitDefEqProofs only [go_sem, s1, s2, s3, s6, s7, s8, Option.isSome_some, hn, stc_get G6, hb63, o4, o5, c4, c5, lf]
      exact bad 1 E3
    rw [if_neg hn]
    refine wpc_cut (fun f4 h4 => h4 = h3 ∧ f4 3 = ptr b3 0 ∧ f4 6 = ptr b6 0 ∧ f4 1 = i64 n ∧ f4 2 = .slice af fs.length cf ∧ f4 7 = ptr b7 0) ?_ ?_
    · simp -implicitDefEqProofs only [go_sem, s1, s2, s3, s6, s7, s8, Option.isSome_some, hn, o4, o5, c4, c5, lf]
    rintro f4 h4 ⟨rfl, t3, t6, t1, t2, t7⟩
    have lcs := SR.len
    have tcs := take_len lcs
    have ocs := SR.one
    have hA : ∀ a ∈ (bootActs m s).take n.toNat, actOk m.flash.sec.length a := fun a ha => bootActs_ok hok.1 hok.2 a (List.mem_of_mem_take ha)
    have hA2 : ((bootActs m s).take n.toNat).length ≤ 1000 := by rw [List.length_take]; omega
    refine wpc_cut (fun f5 h5 => ∃ b9 us ud, f5 3 = ptr b3 0 ∧ f5 6 = ptr b6 0 ∧ f5 2 = .slice af fs.length cf ∧ f5 9 = ptr b9 0 ∧ h5.get b9 = some ⟨[us, ud], 2⟩ ∧ FlR h5 (actsDo m.flash ((bootActs m s).take n.toNat)) us ud ∧ Ext h4 h5) ?_ ?_
    · simp -implicitDefEqProofs only [go_sem, t1, t2, t3, t6, t7, ldc_get G3, ldc_get g7, lcs, tcs, ocs, o4, o5, c4, c5, lf]
      refine ⟨?_, ?_⟩
      · refine AC_of (l14Boot_ac (hv0.ext E3) hok.1 SR hok.2) ?_
        rintro v6 h6 - ⟨e6, ow⟩
        refine ⟨e6.2, ?_⟩
        simp -implicitDefEqProofs only [go_sem, ow.sl.vcl, o4, o5, c4, c5, lf]
        refine ⟨?_, ?_⟩
        · refine AC_of (l14First_ac (n := n) ow.sl (by omega)) ?_
          rintro v7 _ - ⟨rfl, sF⟩
          refine ⟨e6.2, ?_⟩
          simp -implicitDefEqProofs only [go_sem, sF.vcl, o4, o5, c4, c5, lf]
          refine ⟨?_, ?_⟩
          · refine AC_of (l04Do_ac (fr.ext (E3.trans e6)) sF hok.1.2.1 hA hA2) ?_
            rintro _ h8 - ⟨e8, us, ud, rfl, f8⟩
            have p1 := f8.1.sl.one
            have p2 := f8.2.1.sl.one
            have v1 := f8.1.sl.vcl
            have v2 := f8.2.1.sl.vcl
            refine ⟨(e6.trans e8).2, ?_⟩
            simp -implicitDefEqProofs only [go_sem, p1, p2, v1, v2, o4, o5, c4, c5, lf]
            intro b9 hb9 n9
            refine ⟨((e6.trans e8).set n9 _).2, ?_⟩
            simp -implicitDefEqProofs only [go_sem, p1, p2, hb9, t2, t3, t6, o4, o5, c4, c5, lf]
            exact ⟨b9, us, ud, rfl, by rw [if_pos rfl], f8.r.ext ((Ext.refl _).set n9 _), (e6.trans e8).set n9 _⟩
          · intro b9 hb9 n9
            have e9 := (Ext.refl h6).set n9 ⟨[nils, nils], 2⟩
            refine ⟨(e6.trans e9).2, ?_⟩
            simp -implicitDefEqProofs only [go_sem, o4, o5, c4, c5, lf]
            refine AC_of (l04Do_ac (fr.ext (E3.trans (e6.trans e9))) (sF.ext e9) hok.1.2.1 hA hA2) ?_
            rintro _ h8 - ⟨e8, us, ud, rfl, f8⟩
            have p1 := f8.1.sl.one
            have p2 := f8.2.1.sl.one
            have v1 := f8.1.sl.vcl
            have v2 := f8.2.1.sl.vcl
            have g9 := e8.2.g b9 _ (H.set_get_same _ _ _)
            have hb9' : h8.base ≤ b9 := by rw [e8.1, H.set_base]; exact hb9
            refine ⟨(e6.trans (e9.trans e8)).2, ?_⟩
            simp -implicitDefEqProofs only [go_sem, p1, p2, v1, v2, hb9', stc_get g9, t2, t3, t6, o4, o5, c4, c5, lf]
            exact ⟨b9, us, ud, rfl, by rw [if_pos rfl], (FlF.set f8 (H.set_get_same _ _ _) _).r, (e6.trans (e9.trans e8)).set' (e6.none n9) _⟩
        · intro b9 hb9 n9
          have e9 := (Ext.refl h6).set n9 ⟨[nils, nils], 2⟩
          refine ⟨(e6.trans e9).2, ?_⟩
          simp -implicitDefEqProofs only [go_sem, o4, o5, c4, c5, lf]
          refine AC_of (l14First_ac (n := n) (ow.sl.ext e9) (by omega)) ?_
          rintro v7 _ - ⟨rfl, sF⟩
          refine ⟨(e6.trans e9).2, ?_⟩
          simp -implicitDefEqProofs only [go_sem, sF.vcl, o4, o5, c4, c5, lf]
          refine AC_of (l04Do_ac (fr.ext (E3.trans (e6.trans e9))) sF hok.1.2.1 hA hA2) ?_
          rintro _ h8 - ⟨e8, us, ud, rfl, f8⟩
          have p1 := f8.1.sl.one
          have p2 := f8.2.1.sl.one
          have v1 := f8.1.sl.vcl
          have v2 := f8.2.1.sl.vcl
          have g9 := e8.2.g b9 _ (H.set_get_same _ _ _)
          have hb9' : h8.base ≤ b9 := by rw [e8.1, H.set_base]; exact hb9
          refine ⟨(e6.trans (e9.trans e8)).2, ?_⟩
          simp -implicitDefEqProofs only [go_sem, p1, p2, v1, v2, hb9', stc_get g9, t2, t3, t6, o4, o5, c4, c5, lf]
          exact ⟨b9, us, ud, rfl, by rw [if_pos rfl], (FlF.set f8 (H.set_get_same _ _ _) _).r, (e6.trans (e9.trans e8)).set' (e6.none n9) _⟩
      · intro b9 hb9 n9
        have e9 := (Ext.refl h4).set n9 ⟨[nils, nils], 2⟩
        refine ⟨e9.2, ?_⟩
        simp -implicitDefEqProofs only [go_sem, o4, o5, c4, c5, lf]
        refine AC_of (l14Boot_ac (hv0.ext (E3.trans e9)) hok.1 (SR.ext e9) hok.2) ?_
        rintro v6 h6 - ⟨e6, ow⟩
        refine ⟨(e9.trans e6).2, ?_⟩
        simp -implicitDefEqProofs only [go_sem, ow.sl.vcl, o4, o5, c4, c5, lf]
        refine AC_of (l14First_ac (n := n) ow.sl (by omega)) ?_
        rintro v7 _ - ⟨rfl, sF⟩
        refine ⟨(e9.trans e6).2, ?_⟩
        simp -implicitDefEqProofs only [go_sem, sF.vcl, o4, o5, c4, c5, lf]
        refine AC_of (l04Do_ac (fr.ext (E3.trans (e9.trans e6))) sF hok.1.2.1 hA hA2) ?_
        rintro _ h8 - ⟨e8, us, ud, rfl, f8⟩
        have p1 := f8.1.sl.one
        have p2 := f8.2.1.sl.one
        have v1 := f8.1.sl.vcl
        have v2 := f8.2.1.sl.vcl
        have g6' := e6.2.g b9 _ (H.set_get_same _ _ _)
        have g9 := e8.2.g b9 _ g6'
        have hb9' : h8.base ≤ b9 := by rw [e8.1, e6.1, H.set_base]; exact hb9
        refine ⟨(e9.trans (e6.trans e8)).2, ?_⟩
        simp -implicitDefEqProofs only [go_sem, p1, p2, v1, v2, hb9', stc_get g9, t2, t3, t6, o4, o5, c4, c5, lf]
        exact ⟨b9, us, ud, rfl, by rw [if_pos rfl], (FlF.set f8 g6' _).r, (e9.trans (e6.trans e8)).set' n9 _⟩
    rintro f5 h5 ⟨b9, us, ud, u3, u6, u2, u9, g9, fR, e5⟩
    have E5 := E3.trans e5
    have G35 := e5.2.g b3 _ G3
    have G65 := e5.2.g b6 _ G6
    have p1 := fR.1.one
    have p2 := fR.2.one
    have v1 : vcl us = [us] := fR.1.vcl
    have v2 : vcl ud = [ud] := fR.2.vcl
    simp -implicitDefEqProofs only [go_sem, u3, u6, u2, u9, ldc_get g9, ldc_get G35, p1, p2, v1, v2, o4, o5, c4, c5, lf]
    refine AC_of (specCrash_ac fR (cut_ok hok.1 hok.2 _) (hf.ext E5) (by omega) hin) ?_
    rintro _ h7 - ⟨e7, ws, wd, rfl, o7⟩
    have p1 := o7.1.sl.one
    have p2 := o7.2.1.sl.one
    have g67 := e7.2.g b6 _ G65
    have hb7 : h7.base ≤ b6 := by rw [e7.1, e5.1]; exact hb63
    simp -implicitDefEqProofs only [go_sem, e7.2, p1, p2, u6, stc_get g67, hb7, o4, o5, c4, c5, lf]
    exact ⟨(E5.trans e7).set' n6 _, _, rfl, machO_f.2 ⟨ws, wd, rfl, FlF.back (o7.setK G65 _).f E5⟩⟩
end Go.Proofs.YtiokibikhanfcaaGreat
