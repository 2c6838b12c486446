/- A helper of this seat's claims (contracts of the functions): what it shows is shown for every input that its statements name, on no other condition. -/
import Derived.Test.YthjbhdmjfakfaaaGreatDoorMCQc
import Derived.Test.YthjbhdmjfakfaaaGreatDoorKD
import Derived.Test.YthjbhdmjfakfaaaGreatDoorMCZh
import Derived.Test.YthjbhdmjfakfaaaGreatDoorMC13b
import Derived.Test.YthjbhdmjfakfaaaGreatDoorMC06
import Derived.Test.YthjbhdmjfakfaaaGreatDoorMC10t
import Derived.Test.YthjbhdmjfakfaaaGreatDoorMCZj
import Derived.Test.YthjbhdmjfakfaaaGreatDoorKC
import Derived.OpenVars
import Derived.LaidMore
import Derived.LaidHandle
import Derived.MakeChecks
import Derived.Lib.LaidTab
import Derived.Stop.Joined
set_option linter.unusedVariables false
set_option linter.unusedSimpArgs false
set_option maxRecDepth 100000
namespace Go.Proofs.YthjbhdmjfakfaaaGreatDoor
open Go.KH

def readyOf (s : UState) : UState := { s with phase := 3 }
def trialOf (s : UState) : UState := { s with phase := 4, tries := 2 }
section
variable {m : UMach} {im : List (List UInt8)} {s : UState} {g : Int} {W : List UStep}
theorem full_apply {im : List (List UInt8)} {W : List UStep} (hk : ∀ x ∈ W, x.kind ≠ 5) {L : List UStep} (hL : L.filter isW = W) : applyB im (fullL W) = applyB im L := by
 unfold applyB; rw [full_filter hk, hL]
theorem Recs.log3 {m3 : UMach} {s s3 : UState} {l : List UStep} (r : Recs m3 s l) (hs : s3.stash = s.stash) (hm : s3.mine = s.mine) (hl : ∀ x ∈ l, x.ok ∧ stepOk x 8) (h20 : l.length ≤ 20) (hin : s.stash.toNat + l.length ≤ s.mine.length) : logOf m3 s3 = l := by
 have h := r.log hl h20 hin
 have e : logOf m3 s3 = logOf m3 s := by unfold logOf; rw [hs, hm]
 rw [e, h]
theorem finished (a : At m im s g W (fullL W).length) (hs4 : s.stash = 4) (hd0 : s.done = 0) (hn : s.need = ((fullL W).length : Int)) (hd : shaL (applyB im (fullL W)).flatten = s.digest) (hg : g < 999990) :
  finOut m s (logOf m s) = (⟨true, 0, []⟩ :: saveActs m (readyOf s), 0) ∧
  Dev (after m (⟨true, 0, []⟩ :: saveActs m (readyOf s))) im (readyOf s) (g + 1) ∧ soundM (after m (⟨true, 0, []⟩ :: saveActs m (readyOf s))) (readyOf s) ∧
  bootActs (after m (⟨true, 0, []⟩ :: saveActs m (readyOf s))) (readyOf s) = saveActs (after m (⟨true, 0, []⟩ :: saveActs m (readyOf s))) (trialOf s) ∧
  Dev (after (after m (⟨true, 0, []⟩ :: saveActs m (readyOf s))) (saveActs (after m (⟨true, 0, []⟩ :: saveActs m (readyOf s))) (trialOf s))) im (trialOf s) (g + 2) ∧
  viewMOut (after (after m (⟨true, 0, []⟩ :: saveActs m (readyOf s))) (saveActs (after m (⟨true, 0, []⟩ :: saveActs m (readyOf s))) (trialOf s))) = (applyB im (fullL W), 0) := by
 have hlog : logOf m s = fullL W := by rw [a.log, List.take_length]
 have h20 := a.l20
 have hmi := a.mine
 have hc : codeOf (fullL W) m.blocks = 0 := by rw [a.blocks]; exact a.wr.code
 have hsl := a.wr.slots
 have hok3 := ok_ready a.dev.st a.load
 have hok4 : stateOk (trialOf s) := ok_retry (s := readyOf s) hok3 rfl
 have r0 := a.recs
 rw [List.take_length] at r0
 have hfin : finOut m s (logOf m s) = (⟨true, 0, []⟩ :: saveActs m (readyOf s), 0) := by
  unfold finOut
  rw [hlog, if_neg (by rw [hn]; simp), if_neg (by rw [hc]; simp), a.dev.base, if_neg (by rw [hd]; simp), if_neg (by rw [hs4]; omega)]
  rfl
 refine ⟨hfin, ?_⟩
 obtain ⟨d1, q1⟩ := a.dev.acts (l := [⟨true, 0, []⟩]) (fun x hx => by rw [List.mem_singleton.1 hx]; exact sync_ok _) (fun x hx hs => by rw [List.mem_singleton.1 hx] at hs; cases hs)
 have hb := a.dev.fit.1
 have h27 := a.dev.fit.2.2
 have ar1 : ∀ n : Int, 0 ≤ n → n < 24 → areaOf ⟨m.blocks, actsDo m.flash [⟨true, 0, []⟩]⟩ n = areaOf m n := fun n h0 h1 => by
  show flashGet (actsDo m.flash [⟨true, 0, []⟩]) (3 + m.blocks + n) = _
  exact get_acts _ a.dev.fit.2.1 (fun x hx => by rw [List.mem_singleton.1 hx]; exact sync_ok _) (by omega) (fun x hx hs => by rw [List.mem_singleton.1 hx] at hs; cases hs)
 obtain ⟨d2, ar2, -⟩ := d1.save (m0 := m) q1 hok3 (by omega)
 obtain ⟨M3, hM3⟩ : ∃ M3, M3 = after m (⟨true, 0, []⟩ :: saveActs m (readyOf s)) := ⟨_, rfl⟩
 have e3 : (⟨m.blocks, actsDo (actsDo m.flash [⟨true, 0, []⟩]) (saveActs m (readyOf s))⟩ : UMach) = M3 := by rw [hM3]; rfl
 change Dev ⟨m.blocks, actsDo (actsDo m.flash [⟨true, 0, []⟩]) (saveActs m (readyOf s))⟩ im (readyOf s) (g + 1) at d2
 change ∀ n : Int, 0 ≤ n → n < 24 → areaOf ⟨m.blocks, actsDo (actsDo m.flash [⟨true, 0, []⟩]) (saveActs m (readyOf s))⟩ n = _ at ar2
 rw [e3] at d2 ar2
 rw [← hM3]
 have r3 : Recs M3 s (fullL W) := r0.same a.dev.st (by omega) fun n h0 h1 => by rw [ar2 n h0 h1]; exact ar1 n h0 h1
 have hin : s.stash.toNat + (fullL W).length ≤ s.mine.length := by omega
 have log3 : logOf M3 (readyOf s) = fullL W := r3.log3 rfl rfl a.ok8 h20 hin
 have hM3b : M3.blocks = m.blocks := by rw [← e3]
 have hsound : ∀ {M : UMach} {t : UState}, M.blocks = m.blocks → logOf M t = fullL W → t.stash = 4 → t.done = 0 → soundM M t := fun h1 h2 h3 h4 => by
  right
  unfold movesM
  rw [h2, h1, h3, h4]
  exact ⟨hc, hsl, by omega⟩
 have hba : bootActs M3 (readyOf s) = saveActs M3 (trialOf s) := by
  unfold bootActs
  rw [if_neg (show ¬ (readyOf s).phase = 2 from (by decide : ¬ (3 : Int) = 2)), if_pos (show (readyOf s).phase = 3 from rfl)]; rfl
 obtain ⟨d4, ar4, -⟩ := d2.save (m0 := M3) rfl hok4 (by omega)
 obtain ⟨M4, hM4⟩ : ∃ M4, M4 = after M3 (saveActs M3 (trialOf s)) := ⟨_, rfl⟩
 have e4 : (⟨M3.blocks, actsDo M3.flash (saveActs M3 (trialOf s))⟩ : UMach) = M4 := by rw [hM4]; rfl
 rw [e4] at d4 ar4
 rw [← hM4]
 have r4 : Recs M4 s (fullL W) := r3.same a.dev.st hin ar4
 have log4 : logOf M4 (trialOf s) = fullL W := r4.log3 rfl rfl a.ok8 h20 hin
 have hM4b : M4.blocks = m.blocks := by rw [← e4]; exact hM3b
 refine ⟨d2, hsound hM3b log3 hs4 hd0, hba, by rw [show g + 2 = g + 1 + 1 by omega]; exact d4, ?_⟩
 have hr4 := d4.right (hsound hM4b log4 hs4 hd0)
 unfold viewMOut
 rw [d4.stM]
 simp only
 rw [if_pos hr4]
 unfold viewM
 rw [if_pos (show (trialOf s).phase = 4 from rfl), log4, d4.base]
end
theorem made_wr {A B : List (List UInt8)} (iA : imageOk A) (iB : imageOk B) (hl : A.length = B.length) : Wr (stepsTo A B A.length) A.length ∧ applyB A (fullL (stepsTo A B A.length)) = B ∧ pkgSteps A B = stepsTo A B A.length ++ [labS] := by
 have hk : ∀ x ∈ stepsTo A B A.length, x.kind ≠ 5 := fun s hs => by
  obtain ⟨i, hi, _, rfl⟩ := mem_stepsTo hs
  exact (stepFor_kind ..).1
 have hm := made_steps iA iB hl
 have hlen := stepsTo_len A B A.length
 have hA := iA.1
 refine ⟨⟨by omega, hk, fun x hx => hm x (List.mem_append_left _ hx), stepsTo_apart A B _, hA⟩, ?_, rfl⟩
 rw [full_apply hk (L := pkgSteps A B) ?_]
 ·exact pkgSteps_apply iA iB hl
 ·unfold pkgSteps
  rw [List.filter_append]
  have e : isW labS = false := by simp [isW, labS]
  rw [List.filter_cons_of_neg (by simp [e]), List.filter_nil, List.append_nil]
  exact List.filter_eq_self.2 fun x hx => by simp [isW, hk x hx]
end Go.Proofs.YthjbhdmjfakfaaaGreatDoor
namespace Go.KH

def rowk0 (fin : DP) : List (Bool × GO) → DP
 | [] => fin
 | (true, c) :: cs => .sq c (rowk0 fin cs)
 | (false, c) :: cs => .tk c (rowk0 fin cs)
def rowk1 (fin : DP) (a : GO) : List (Bool × GO) → DP
 | [] => .sq a fin
 | (true, c) :: cs => .alt c (rowk1 fin a cs) a (rowk0 fin ((true, c) :: cs))
 | (false, c) :: cs => .tk c (rowk1 fin a cs)
section
variable {P : Program} {hS : H} {K : Fr → H → Prop}
def TkOk (hS : H) (c : GO) (f : Fr) (K : Fr → Prop) : Prop := ∃ d o, c = ⟨d, none, .p o⟩ ∧ withO (pval (ev f) hS o) fun v => K (putf f d v)
theorem TkOk.go {c : GO} {r : DP} {f : Fr} {h : H} {K' : Fr → Prop} (t : TkOk hS c f K') (hk : ∀ f', K' f' → dopw P hS r f' h K) : dopw P hS (.tk c r) f h K := by
 obtain ⟨d, o, rfl, w⟩ := t
 show withO (pval (ev f) hS o) fun v => dopw P hS r (putf f d v) h K
 exact withO_mono (fun v => hk _) w
def RowOk (P : Program) (hS : H) (L : List (Bool × GO)) (I : Nat → Fr → H → Prop) : Prop := ∀ i k c, L[i]? = some (k, c) → ∀ f h, I i f h → (k = true → gow P c f h fun f' h' => Sub hS h' ∧ I (i + 1) f' h') ∧ (k = false → TkOk hS c f fun f' => I (i + 1) f' h)
theorem rowk0_ok {fin : DP} {I : Nat → Fr → H → Prop} {L : List (Bool × GO)} (hc : RowOk P hS L I) (hf : ∀ f h, I L.length f h → dopw P hS fin f h K) : ∀ (cs : List (Bool × GO)) (i : Nat), L.drop i = cs → i ≤ L.length → ∀ f h, I i f h → dopw P hS (rowk0 fin cs) f h K
 | [], i, e, hi, f, h, hI => by
  have : L.length ≤ i := by simpa using e
  obtain rfl : i = L.length := by omega
  exact hf f h hI
 | (k, c) :: cs, i, e, hi, f, h, hI => by
  have hlt : i < L.length := by
   rcases Nat.lt_or_ge i L.length with h1 | h1
   ·exact h1
   ·rw [List.drop_of_length_le h1] at e; cases e
  rw [List.drop_eq_getElem_cons hlt] at e
  simp only [List.cons.injEq] at e
  have q := hc i k c (by rw [List.getElem?_eq_getElem hlt, e.1]) f h hI
  cases k with
  | true => exact gow_mono (fun f' h' q => ⟨q.1, rowk0_ok hc hf cs (i + 1) e.2 hlt f' h' q.2⟩) (q.1 rfl)
  | false => exact TkOk.go (q.2 rfl) fun f' q => rowk0_ok hc hf cs (i + 1) e.2 hlt f' h q
theorem rowk1_ok {fin : DP} {a : GO} {I J : Nat → Fr → H → Prop} {L : List (Bool × GO)} (hc : RowOk P hS L I) (hf : ∀ f h, I L.length f h → dopw P hS fin f h K) (hj : RowOk P hS L J) (ha : ∀ i f h, J i f h → gow P a f h fun f' h' => Sub hS h' ∧ I i f' h') :
  ∀ (cs : List (Bool × GO)) (i : Nat), L.drop i = cs → i ≤ L.length → ∀ f h, J i f h → dopw P hS (rowk1 fin a cs) f h K
 | [], i, e, hi, f, h, hI => by
  have : L.length ≤ i := by simpa using e
  obtain rfl : i = L.length := by omega
  exact gow_mono (fun f' h' q => ⟨q.1, hf f' h' q.2⟩) (ha _ f h hI)
 | (k, c) :: cs, i, e, hi, f, h, hI => by
  have e0 := e
  have hlt : i < L.length := by
   rcases Nat.lt_or_ge i L.length with h1 | h1
   ·exact h1
   ·rw [List.drop_of_length_le h1] at e; cases e
  rw [List.drop_eq_getElem_cons hlt] at e
  simp only [List.cons.injEq] at e
  have q := hj i k c (by rw [List.getElem?_eq_getElem hlt, e.1]) f h hI
  cases k with
  | true => exact ⟨gow_mono (fun f' h' q => ⟨q.1, rowk1_ok hc hf hj ha cs (i + 1) e.2 hlt f' h' q.2⟩) (q.1 rfl), gow_mono (fun f' h' q => ⟨q.1, rowk0_ok hc hf ((true, c) :: cs) i e0 hi f' h' q.2⟩) (ha i f h hI)⟩
  | false => exact TkOk.go (q.2 rfl) fun f' q => rowk1_ok hc hf hj ha cs (i + 1) e.2 hlt f' h q
end
def RgK (x : List (Nat × Value)) (f : Fr) : Prop := ∀ p ∈ x, f p.1 = p.2
theorem RgK.upd {x : List (Nat × Value)} {f : Fr} (r : RgK x f) {d : Nat} (h : ∀ p ∈ x, p.1 ≠ d) (v : Value) : RgK x (upd f d v) := fun p hp => by
 have := h p hp
 show (if p.1 = d then v else f p.1) = p.2
 rw [if_neg this]; exact r p hp
theorem RgK.put {x : List (Nat × Value)} {f : Fr} (r : RgK x f) {d : Nat} (h : ∀ p ∈ x, p.1 ≠ d) (v : Value) : RgK x (putf f (some d) v) := r.upd h v
end Go.KH
namespace Go.Proofs.YthjbhdmjfakfaaaGreatDoor
open Go.KH

end Go.Proofs.YthjbhdmjfakfaaaGreatDoor
namespace Go.Proofs.YthjbhdmjfakfaaaGreatDoor
open Go.KH

end Go.Proofs.YthjbhdmjfakfaaaGreatDoor
namespace Go.Proofs.YthjbhdmjfakfaaaGreatDoor
open Go.KH

end Go.Proofs.YthjbhdmjfakfaaaGreatDoor
namespace Go.Proofs.YthjbhdmjfakfaaaGreatDoor
open Go.KH

theorem PkgDrawn.back {h h1 h3 : H} {p : UPkg} {T : List (List UInt8)} {vs vo : Value} (P : PkgDrawn h1 h3 p T vs vo) (e : ∀ b, h1.get b = none → h.get b = none) : PkgDrawn h h3 p T vs vo :=
 ⟨P.blocks, P.digest, P.steps, P.few, ownBN P.own e, ownBN P.old e, P.img⟩
theorem PkgDrawn.set {h h3 : H} {p : UPkg} {T : List (List UInt8)} {vs vo : Value} (P : PkgDrawn h h3 p T vs vo) {c : Nat} (h1 : ob vs ≠ some c) (h2 : ob vo ≠ some c) (y : Ob) : PkgDrawn h (h3.set c y) p T vs vo :=
 ⟨P.blocks, P.digest, P.steps, P.few, P.own.setOb h1 y, P.old.setOb h2 y, P.img⟩
theorem PkgDrawn.ext {h h3 h4 : H} {p : UPkg} {T : List (List UInt8)} {vs vo : Value} (P : PkgDrawn h h3 p T vs vo) (e : Ext h3 h4) : PkgDrawn h h4 p T vs vo :=
 ⟨P.blocks, P.digest, P.steps, P.few, P.own.ext e, P.old.ext e, P.img⟩
theorem pkg_of {hA h1 h3 : H} {v : Value} {l : List UInt8} {b : Nat} (e1 : Ext hA h1) (nb : hA.get b = none) (D : Drew v l b h1 h3) : Ext hA h3 := Keep.ext e1 D.1 (fun c e => by subst e; exact nb)
def b_spec_DrawStepsFor : C := (jo [q 2 (.mv (.c nils)), q 3 (.mv (.c nils))]
 (jo [jm 8 0, jc 9 41 [(.t 8)], jm 4 9]
 (jo [jm 10 4, jc 11 49 [(.t 10)], jm 5 11]
 (jo [⟨(some 12), none, .bsl 0 [] []⟩, jm 13 5, ⟨(some 14), none, .app 1 16 (.t 12) (.t 13)⟩, jm 6 14]
 (.seq (jo [q 7 (.mv (.c (i64 0)))]
 (.block 0 (.loop (.seq (jo [jm 15 7, jm 16 6, q 17 (.len (.t 16)), jb 18 .lss 15 17]
 (.cond (.t 18) .skip (.exit 0)))
 (.seq (.block 1 (jo [jm 21 4, jc 22 48 [(.t 21), (.c (i64 2))]]
 (.cond (.t 22) (.ops [jm 23 6, jm 24 7, jm 25 4, jc 26 83 [(.t 25)], q 27 (.idx 1 (.t 23) (.t 24)), js 1 27 26]) .skip)))
 (.ops [jm 19 7, jk 20 .add 19 1, jm 7 20]))))))
 (.seq (jo [jm 28 4, jc 29 48 [(.t 28), (.c (i64 12))]]
 (.cond (.t 29) (.ops [jm 30 4, jc 31 49 [(.t 30)], jm 6 31]) .skip))
 (jo [jm 32 5, jm 33 6, jm 2 32, jm 3 33]
 .ret)))))))
theorem w_spec_DrawStepsFor : Wk Tryz.prog 33 34 [.tmp 2, .tmp 3] b_spec_DrawStepsFor := Wk.of mixedOrders Tryz.func33 (by kernel_rfl) (by kernel_rfl)

theorem drawStepsFor_ac {h : H} {v : Value} {l : List UInt8} (hv : Sl h v 1 (bys l)) (hn : l.length ≤ 1048576) : AC Tryz.prog 33 [v] h fun r h' => Ext h h' ∧ ∃ (A B : List (List UInt8)) (va vb : Value), r = .tuple #[va, vb] ∧ (∀ t ∈ A, t.length ≤ 9) ∧ A.length ≤ 10 ∧ Sl h' va 1 (strs A) ∧ (∀ t ∈ B, t.length ≤ 9) ∧ B.length ≤ 10 ∧ Sl h' vb 1 (strs B) := by
 refine w_spec_DrawStepsFor (by simp) ?_
 unfold b_spec_DrawStepsFor
 simp -implicitDefEqProofs only [go_sem]
 refine AC_of (source_ac hv hn) ?_
 rintro _ h1 - ⟨b, rfl, nb, e1, s1⟩
 simp -implicitDefEqProofs only [go_sem]
 refine AC_of (src_oddImage s1) ?_
 rintro va h2 - ⟨⟨A, hA, hA10, fA⟩, d1⟩
 have hS : ∀ x, x = b → h1.get x ≠ none := fun x e => by subst e; exact s1.known
 have hlA : (strs A).length = A.length := by simp
 obtain ⟨aa, ca, rfl⟩ := fA.shape
 rw [hlA] at fA
 simp -implicitDefEqProofs only [go_sem, hlA]
 intro b12 hb12 n12
 have q12 : b12 ≠ b := fun e => by subst e; exact d1.2.known n12
 have hsrc := src0 n12 fA.sl (strs_wid _) (by decide)
 simp -implicitDefEqProofs only [go_sem, hsrc]
 refine app0 hb12 n12 (by rw [hlA]) (strs_wid _) (strs_one _) (by rw [hlA]; omega) ?_
 intro vb h3 e3 o3
 have D3 := d1.ext e3
 have hdj : ∀ x, blk (.slice aa A.length ca) = some x → ob vb ≠ some x := fun x e1 e2 => fA.known x e1 (o3.ob_new e2).1
 have oB := ownBN o3 d1.1.nones
 have fA3 := fA.ext e3
 obtain ⟨ab, cb, rfl⟩ := o3.shape
 rw [hlA] at oB hdj
 clear o3 hsrc
 simp -implicitDefEqProofs only [go_sem, hlA]
 refine loopW_of (fun m f h' => ∃ (k : Nat) (B : List (List UInt8)), m + k = A.length ∧ B.length = A.length ∧ (∀ t ∈ B, t.length ≤ 9) ∧ f 4 = ptr b 0 ∧ f 5 = .slice aa A.length ca ∧ f 6 = .slice ab A.length cb ∧ f 7 = i64 k ∧ Own h1 h' (.slice ab A.length cb) 1 (strs B) ∧ Fre h1 h' (.slice aa A.length ca) 1 (strs A) ∧ Drew v l b h1 h') A.length
  ⟨0, A, by simp, rfl, hA, by simp -implicitDefEqProofs only [go_sem], by simp -implicitDefEqProofs only [go_sem, hlA], by simp -implicitDefEqProofs only [go_sem, hlA], by simp -implicitDefEqProofs only [go_sem]; rfl, oB, fA3, D3⟩ ?_
 clear D3 oB fA3
 rintro m f h4 ⟨k, B, hm, hB, hB9, f4, f5, f6, f7, oB, fA4, D⟩
 skip
 have hlB : (strs B).length = A.length := by simp [hB]
 by_cases hk : k < A.length
 ·simp -implicitDefEqProofs only [go_sem, hk, f4, f5, f6, f7, Int.ofNat_lt, Int.natCast_nonneg]
  refine AC_of (src_one D.2 (by omega)) ?_
  rintro _ h5 - ⟨⟨t, rfl⟩, d5⟩
  have D5 := D.trans d5
  have oB5 := oB.keepS d5.1 hS
  have fA5 := fA4.keep d5.1 (fun x hx e => by subst e; exact s1.known (fA4.new x hx))
  cases t
  ·simp -implicitDefEqProofs only [go_sem, wrap_i64 (show -(9223372036854775808 : Int) ≤ ((k : Int) + 1) by omega) (show ((k : Int) + 1) < 9223372036854775808 by omega), f4, f5, f6, f7, Int.ofNat_lt, Int.natCast_nonneg]
   exact ⟨m - 1, by omega, _, Ext.refl _, k + 1, B, by omega, hB, hB9, rfl, oB5, fA5, D5⟩
  ·simp -implicitDefEqProofs only [go_sem, f4, f5, f6, f7, Int.ofNat_lt, Int.natCast_nonneg]
   refine AC_of (src_data D5.2) ?_
   rintro _ h6 - ⟨⟨s, hs8, rfl⟩, d6⟩
   have D6 := D5.trans d6
   have oB6 := oB5.keepS d6.1 hS
   have fA6 := fA5.keep d6.1 (fun x hx e => by subst e; exact s1.known (fA5.new x hx))
   obtain ⟨b', c', z, hvb, hb', hn', hg', hst, oB7⟩ := own_put oB6 (k := k) (by rw [hlB]; exact hk) (r := [str s]) rfl rfl
   rw [hlB] at hvb
   rw [hvb] at f6 hdj oB7 ⊢
   have hset : (strs B).set k [str s] = strs (B.set k s) := by simp [List.map_set]
   rw [hset] at oB7 hst
   rw [Nat.mul_one] at hst
   simp -implicitDefEqProofs only [go_sem, hk, hb', Nat.mul_one, hst, wrap_i64 (show -(9223372036854775808 : Int) ≤ ((k : Int) + 1) by omega) (show ((k : Int) + 1) < 9223372036854775808 by omega), f4, f5, f6, f7, Int.ofNat_lt, Int.natCast_nonneg]
   exact ⟨m - 1, by omega, _, Ext.refl _, k + 1, B.set k s, by omega, by simp [hB], fun t ht => by
    rcases List.mem_or_eq_of_mem_set ht with h | rfl
    ·exact hB9 t h
    ·omega, rfl, oB7, Fre.setNe fA6 (fun e => hdj _ e rfl) _, Drew.set D6 hn' s1 _⟩
 have e : k = A.length := by omega
 subst e
 simp -implicitDefEqProofs only [go_sem, Nat.lt_irrefl, f4, f5, f6, f7, Int.ofNat_lt, Int.natCast_nonneg]
 refine AC_of (src_one D.2 (by omega)) ?_
 rintro _ h5 - ⟨⟨t, rfl⟩, d5⟩
 have D5 := D.trans d5
 have oB5 := oB.keepS d5.1 hS
 have fA5 := fA4.keep d5.1 (fun x hx e => by subst e; exact s1.known (fA4.new x hx))
 cases t
 ·simp -implicitDefEqProofs only [go_sem, f4, f5, f6, f7, Int.ofNat_lt, Int.natCast_nonneg]
  exact ⟨pkg_of e1 nb D5, A, B, _, _, rfl, hA, hA10, fA5.sl, hB9, by omega, by have := oB5.sl; exact this⟩
 ·simp -implicitDefEqProofs only [go_sem, f4, f5, f6, f7, Int.ofNat_lt, Int.natCast_nonneg]
  refine AC_of (src_oddImage D5.2) ?_
  rintro vt h6 - ⟨⟨T2, hT2, hT3, f8⟩, d6⟩
  simp -implicitDefEqProofs only [go_sem, f4, f5, f6, f7, Int.ofNat_lt, Int.natCast_nonneg]
  exact ⟨pkg_of e1 nb (D5.trans d6), A, T2, _, _, rfl, hA, hA10, (fA5.keep d6.1 (fun x hx e => by subst e; exact s1.known (fA5.new x hx))).sl, hT2, hT3, f8.sl⟩
def b_spec_DrawPackageOf : C := (jo [q 2 (.mv (.c nils)), q 3 (.mv (.c nils))]
 (jo [jm 4 0, jc 5 33 [(.t 4)], q 6 (.ext 0 (.t 5)), q 7 (.ext 1 (.t 5)), jm 2 6, jm 3 7]
 .ret))
theorem w_spec_DrawPackageOf : Wk Tryz.prog 6 8 [.tmp 2, .tmp 3] b_spec_DrawPackageOf := Wk.of mixedOrders Tryz.func6 (by kernel_rfl) (by kernel_rfl)

theorem drawPackageOf_ac {h : H} {v : Value} {l : List UInt8} (hv : Sl h v 1 (bys l)) (hn : l.length ≤ 1048576) : AC Tryz.prog 6 [v] h fun r h' => Ext h h' ∧ ∃ (A B : List (List UInt8)) (va vb : Value), r = .tuple #[va, vb] ∧ (∀ t ∈ A, t.length ≤ 9) ∧ A.length ≤ 10 ∧ Sl h' va 1 (strs A) ∧ (∀ t ∈ B, t.length ≤ 9) ∧ B.length ≤ 10 ∧ Sl h' vb 1 (strs B) := by
 refine w_spec_DrawPackageOf (by simp) ?_
 unfold b_spec_DrawPackageOf
 simp -implicitDefEqProofs only [go_sem]
 refine AC_of (drawStepsFor_ac hv hn) ?_
 rintro _ h1 - ⟨e, A, B, va, vb, rfl, q⟩
 simp -implicitDefEqProofs only [go_sem]
 exact ⟨e, A, B, va, vb, rfl, q⟩
end Go.Proofs.YthjbhdmjfakfaaaGreatDoor
namespace Go.KH
open Go.RowKit Go.ChangeShapes

theorem trodVars_len {P : Program} {H' : Type} {enc : TypeId × Value → H'} {W : World} {sp : Nat → Bool} : ∀ {ns : List String} {gs : List (DataW H')} {ps : List MemPlace}, DataW.TrodVars enc P W sp ns gs ps → gs.length = ns.length
 | [], [], _, _ => rfl
 | [], _ :: _, _, h => h.elim
 | _ :: _, [], _, h => h.elim
 | _ :: _, _ :: _, _, ⟨_, _, _, _, _, _, _, _, _, _, h, _⟩ => by rw [List.length_cons, List.length_cons, trodVars_len h]
theorem law_returns_laid {Ck : Checked} {os : Os} {f : FuncId} {fn : Func} {s : ChangeSpec} {H' : Type} {enc : TypeId × Value → H'} {rt : TypeId} {laid : List (String × DataW Unit)} (own : ownKnob Ck.prog.godebug = none) (started : os.Started) (noInit : Ck.prog.inits.idxOf? f = none)
  (hfn : Ck.prog.funcs[f]? = some fn)
  (witness : ∃ (w : World) (tape : Tape) (i : Input), w.os = os ∧ (w.forCall tape i).Shaped Ck.prog ∧ i.vars = [] ∧ Input.okWide Ck.prog (w.forCall tape i) .any w.heap.size f i ∧
   ((s.pre enc Ck.prog fn [] false (w.forCall tape i).memory i.args ∧ laidMetH Ck.prog laid (w.forCall tape i).memory) ∧ sizedMet enc Ck.prog fn (OpenSpec.ofChange s) false (w.forCall tape i).memory i.args) ∧ ({} : Assume).holds Ck.prog (lone (Frame.enter Ck.prog f i.args .normal) [] (w.forCall tape i)))
  (hl : laidOutB Ck.prog = true) (hread : ∀ t ∈ fn.params.toList, Ck.prog.readableRec t = true ∧ t < Ck.prog.types.size) (hres : fn.resultTypes = #[rt]) (hrt : Ck.prog.underlying rt = some .bool)
  (hvars : varsRowed Ck.prog s.vars = true) (hspec : ∀ ds gs : List (DataW H'), ds.length = fn.params.toList.length → gs.length = s.vars.length → s.fn H' (ds ++ gs) = { results := [.lit (.bool true)], args := ds, vars := gs })
  (law : ∀ (W : World) (args : List Value) (ds : List (DataW H')) (ps : List MemPlace), DataW.TrodAll enc Ck.prog W 0 (fun _ => true) true fn.params.toList args ds ps → (∀ (j : Nat) t v, fn.params[j]? = some t → args[j]? = some v → ∃ base, Value.okWide Ck.prog W .any base t v) → laidMetH Ck.prog laid W →
   AC Ck.prog f args (h0 W) fun r _ => r = .bool true) :
  ReturnsInHanded {} Ck os f .any (fun w args => (s.pre enc Ck.prog fn [] false w args ∧ laidMetH Ck.prog laid w) ∧ sizedMet enc Ck.prog fn (OpenSpec.ofChange s) false w args) (s.post enc Ck.prog fn false true false false) := by
 refine returnsInHanded_of_change_and (X := fun w _ => laidMetH Ck.prog laid w) (fun _ _ _ hh h => laidMetH.of_heap hh h) own started noInit hfn witness ?_
 intro W base args ds gs before hval hW _ _ hX _
 have hW' := hW
 obtain ⟨p, q, hA, hV, rfl, hfz, hnd⟩ := hW
 have hgl := trodVars_len hV
 have hc := law W args.toList ds p hA (fun j t v ht hv => ⟨base, hval j t v ht (by simpa using hv)⟩) hX
 have := hc.2 W W (rel_h0 W)
 rw [Array.toArray_toList] at this
 refine this.mono ?_
 rintro e W' ⟨v, h', rfl, hb, hr, rfl⟩
 have hbel : Below W.heap.size W W' := by have := hr.below; rw [hb] at this; exact this
 obtain ⟨e1, e2, hA'⟩ := trodAll_below hl hbel _ _ _ _ hread hA
 refine ⟨_, rfl, ds, gs, p ++ q, [], p, q, hW', ?_, ?_, ?_, hbel.frame _, fun h => by cases h⟩
 ·rw [hspec ds gs e1 hgl, hres]
  exact trodAll_mk1 (shut_bool hrt _)
 ·rw [hspec ds gs e1 hgl]; exact hA'
 ·rw [hspec ds gs e1 hgl]; exact Below.trodVars hl hbel hvars hV
theorem law_row_laid {Ck : Checked} {os : Os} {f : FuncId} {fn : Func} {s : ChangeSpec} {H' : Type} {enc : TypeId × Value → H'} {rt : TypeId} {laid : List (String × DataW Unit)} (T : H → Prop) (ss : List AS) (own : ownKnob Ck.prog.godebug = none) (started : os.Started) (noInit : Ck.prog.inits.idxOf? f = none)
  (hfn : Ck.prog.funcs[f]? = some fn)
  (witness : ∃ (w : World) (tape : Tape) (i : Input), w.os = os ∧ (w.forCall tape i).Shaped Ck.prog ∧ i.vars = [] ∧ Input.okWide Ck.prog (w.forCall tape i) .any w.heap.size f i ∧
   ((s.pre enc Ck.prog fn [] false (w.forCall tape i).memory i.args ∧ laidMetH Ck.prog laid (w.forCall tape i).memory) ∧ sizedMet enc Ck.prog fn (OpenSpec.ofChange s) false (w.forCall tape i).memory i.args) ∧ ({} : Assume).holds Ck.prog (lone (Frame.enter Ck.prog f i.args .normal) [] (w.forCall tape i)))
  (hl : laidOutB Ck.prog = true) (hread : fn.params.toList.all (fun t => Ck.prog.readableRec t && decide (t < Ck.prog.types.size)) = true) (hres : fn.resultTypes = #[rt]) (hrt : Ck.prog.underlying rt = some .bool)
  (hvars : varsRowed Ck.prog s.vars = true) (hspec : ∀ ds gs : List (DataW H'), ds.length = fn.params.toList.length → gs.length = s.vars.length → s.fn H' (ds ++ gs) = { results := [.lit (.bool true)], args := ds, vars := gs })
  (hsh : fn.params.toList.map (shA Ck.prog) = ss.map some) (htab : ∀ W, laidMetH Ck.prog laid W → T (h0 W))
  (law : ∀ (h : H), T h → ∀ (args : List Value), okAs h ss args → AC Ck.prog f args h fun r _ => r = .bool true) :
  ReturnsInHanded {} Ck os f .any (fun w args => (s.pre enc Ck.prog fn [] false w args ∧ laidMetH Ck.prog laid w) ∧ sizedMet enc Ck.prog fn (OpenSpec.ofChange s) false w args) (s.post enc Ck.prog fn false true false false) :=
 law_returns_laid own started noInit hfn witness hl (fun t ht => by
   have := List.all_eq_true.1 hread t ht
   simpa using this) hres hrt hvars hspec
  (fun W args ds ps hA hv hX => law (h0 W) (htab W hX) args (okAs_of _ ss W H' enc args ds ps hsh hA (fun j t v ht hv' => hv j t v (by simpa using ht) hv')))
theorem laid_cells {P : Program} {W : World} {g n : Nat} {name : String} {t e : TypeId} {cs : Array Value} {fuel : Nat} {zs : List Int} {p : List MemPlace} {k : IntKind} (hg : P.globalNamed name = some g) (hv : W.var? P name = some cs)
  (ht : P.underlying t = some (.array n e)) (he : P.underlying e = some (.int k)) (hce : P.cellsOf e = 1) (hct : P.cellsOf t = n)
  (hd : DataW.trod (fun _ => ()) P W 0 (fun _ => true) false fuel t cs.toList = some (Lib.tabData k zs, p)) : ∃ z, (h0 W).get g = some ⟨zs.map fun z => Value.int k z, z⟩ := by
 have h1 := Lib.cells_of_tab ht he hce hct hd
 simp only [World.var?, hg, Option.bind_some] at hv
 split at hv
 ·rename_i c T fz hc
  cases hv
  refine ⟨cs.size, ?_⟩
  simp only [h0, hc, h1]
 ·cases hv
end Go.KH