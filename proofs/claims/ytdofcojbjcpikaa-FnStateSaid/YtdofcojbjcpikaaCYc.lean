/- A helper of this seat's claims (contracts of the functions): what it shows is shown for every input that its statements name, on no other condition. -/
import Derived.Test.YtdofcojbjcpikaaCYb
import Derived.Test.YtdofcojbjcpikaaCXa
import Derived.Test.YtdofcojbjcpikaaCDs
import Derived.Test.YtdofcojbjcpikaaC12r
set_option linter.unusedVariables false
set_option linter.unusedSimpArgs false
set_option maxRecDepth 100000
namespace Go.Proofs.Ytdofcojbjcpikaa
open Go.KH

/-! ## States drawn -/
theorem appW_pre {h0 h : H} {K : Value → H → Prop} {n c : Nat} {a : Option Addr} {L rest : List Int} {x : Int} (e : ∀ b, h.get b = none → h0.get b = none) (o : OwnP h0 h (.slice a n c) L rest) (hL : L.length + rest.length ≤ 1000)
    (hK : ∀ v' b' y, h0.get b' = none → (KH.ob (.slice a n c) = some b' ∨ h.get b' = none) → (∀ d, KH.ob v' = some d → d = b') → OwnP h0 (h.set b' y) v' (L ++ [x]) (rest.drop 1) → K v' (h.set b' y)) : appW h 1 8 (a, n, c) (1, [i64 x]) K := by
  obtain ⟨rfl, o2⟩ := o.ob
  clear o
  cases rest with
  | nil =>
    have o : Own h0 h (.slice a L.length c) 1 (ints L) := by simpa using o2
    clear o2
    refine appW_ownB (rows := ints L) (new := ints [x]) e o rfl (by intro r hr; simp at hr; subst hr; rfl) rfl (by rw [ints_len]; simp; omega) ?_ (by intro q; simp at q)
    intro v' b' y q1 q2 q3 q4
    refine hK v' b' y q1 q2 q3 (.of ?_)
    simpa using q4
  | cons r rs =>
    rcases o2 with ⟨hv, _⟩ | ⟨b, c', z, hv, hlc, hbb, h0b, hg, hcz, hww⟩
    · simp only [nils, Value.slice.injEq, List.length_append, List.length_cons] at hv; omega
    simp only [sl, Value.slice.injEq] at hv
    obtain ⟨rfl, _, rfl⟩ := hv
    rw [ints_len] at hlc
    simp only [List.length_append, List.length_cons] at hlc hL
    have hfl : (ints (L ++ r :: rs)).flatten.length = L.length + (rs.length + 1) := by rw [ints_flat]; simp
    have hsp := flat_splice hww L.length (by rw [ints_len]; simp) (r := [i64 x]) rfl
    rw [Nat.mul_one] at hsp
    have hset : (ints (L ++ r :: rs)).set L.length [i64 x] = ints ((L ++ [x]) ++ rs) := by
      simp [ints]
    rw [hset] at hsp
    refine ⟨by simp only; omega, rfl, rfl, rfl, hbb, ⟨_, hg, hcz, .inr ⟨by simp only; omega, by simp only [hfl]; omega, ?_⟩⟩⟩
    simp only [Nat.mul_one]
    rw [hsp]
    refine hK _ b _ h0b (.inl rfl) (fun d hd => by simpa [KH.ob] using hd.symm) ⟨some ⟨b, 0, none⟩, c, by simp, .inr ⟨b, c, z, by rw [ints_len], by rw [ints_len]; simp; omega, by rw [H.set_base]; exact hbb, h0b, H.set_get_same _ _ _, hcz, ints_wid _⟩⟩
theorem Keep.back1 {S : Nat → Prop} {b : Nat} {h hB h' : H} (e : Ext h hB) (k : Keep S hB h') (hS : ∀ c, S c → c = b ∨ h.get c = none) : Keep (fun x => x = b) h h' :=
  ⟨k.1.trans e.1, fun c ob hc hg => k.2.1 c ob (fun s => (hS c s).elim hc (fun q => by rw [q] at hg; cases hg)) (e.2.g c ob hg), fun c l hl => k.2.2.1 c l (e.2.m c l hl), fun c hc => k.2.2.2 c (by
    cases hq : h.get c with
    | none => exact absurd hq hc
    | some ob => rw [e.2.g c ob hq]; simp)⟩
abbrev zst : List Value := [i64 0, i64 0, i64 0, i64 0, i64 0, str [], nils, nils]
def stS (b b2 b3 x : Nat) : Prop := x = b ∨ x = b2 ∨ x = b3
/-- A state under way. -/
def StInv (B : Nat) (v : Value) (l : List UInt8) (b b2 b3 : Nat) (hB : H) (f : Fr) (h' : H) : Prop := ∃ (s : UState) (uh um : Value) (rest : List Int), f 0 = ptr b 0 ∧ f 2 = ptr b2 0 ∧ f 3 = ptr b3 0 ∧ Keep (stS b b2 b3) hB h' ∧ Src v l h' b ∧
  h'.get b2 = some ⟨zst, 8⟩ ∧ h'.get b3 = some ⟨s.cells uh um, 8⟩ ∧ Own hB h' uh 1 (ints s.held) ∧ OwnP hB h' um s.mine rest ∧ Ap uh um ∧ s.held.length ≤ 24 ∧ s.mine.length ≤ B ∧ rest.length ≤ 100
structure StEnv (v : Value) (l : List UInt8) (b b2 b3 : Nat) (hB : H) : Prop where
  n2 : hB.get b2 ≠ none
  n3 : hB.get b3 ≠ none
  nb : hB.get b ≠ none
  z23 : b2 ≠ b3
  z2 : b2 ≠ b
  z3 : b3 ≠ b
  base : hB.base ≤ b2 ∧ hB.base ≤ b3
  kn : Known hB v
theorem StEnv.ne {v : Value} {l : List UInt8} {b b2 b3 : Nat} {hB : H} (E : StEnv v l b b2 b3 hB) : ∀ x, x = b → hB.get x ≠ none := fun x e => by subst e; exact E.nb
theorem Src.set {v : Value} {l : List UInt8} {h : H} {b : Nat} (s : Src v l h b) {c : Nat} (hc : c ≠ b) (hv : ∀ x, blk v = some x → x ≠ c) (y : Ob) : Src v l (h.set c y) b := by
  obtain ⟨a, m, z, hg, h1, h2, h3, h4, h5, h6⟩ := s
  exact ⟨a, m, z, by rw [H.set_get_ne _ _ _ _ hc.symm]; exact hg, h1.set hv _, h2, h3, h4, h5, h6⟩
/-- A draw, then a write into the state's box. -/
theorem st_put {v : Value} {l : List UInt8} {b b2 b3 : Nat} {hB : H} (E : StEnv v l b b2 b3 hB) {h1 : H} (k : Keep (stS b b2 b3) hB h1) (sr : Src v l h1 b) (g2 : h1.get b2 = some ⟨zst, 8⟩) (x : Ob)
    {uh um : Value} {H1 M1 rest : List Int} (oh : Own hB h1 uh 1 (ints H1)) (om : OwnP hB h1 um M1 rest) (hv : ∀ c, blk v = some c → c ≠ b3) :
    Keep (stS b b2 b3) hB (h1.set b3 x) ∧ Src v l (h1.set b3 x) b ∧ (h1.set b3 x).get b2 = some ⟨zst, 8⟩ ∧ Own hB (h1.set b3 x) uh 1 (ints H1) ∧ OwnP hB (h1.set b3 x) um M1 rest :=
  ⟨k.set (.inl (.inr (.inr rfl))) _, sr.set E.z3 hv _, by rw [H.set_get_ne _ _ _ _ E.z23]; exact g2, oh.set0 E.n3 _, om.set0 E.n3 _⟩
theorem OwnP.keepS {S : Nat → Prop} {h0 h h' : H} {v : Value} {L rest : List Int} (o : OwnP h0 h v L rest) (k : Keep S h h') (hS : ∀ b, S b → h0.get b ≠ none) : OwnP h0 h' v L rest := by
  obtain ⟨a, c, rfl, o⟩ := o; exact ⟨a, c, rfl, o.keepS k hS⟩
theorem OwnP.shape {h0 h : H} {v : Value} {L rest : List Int} (o : OwnP h0 h v L rest) : ∃ a c, v = .slice a L.length c := by obtain ⟨a, c, rfl, _⟩ := o; exact ⟨a, c, rfl⟩
/-- (*spec.l01Src).l12State -/
def b_spec_l01Src_l12State : C := (.seq (.ops [⟨(some 2), none, .alloc [(i64 0), (i64 0), (i64 0), (i64 0), (i64 0), (str []), nils, nils]⟩])
 (.seq (.ops [q 4 (.mv (.t 0)), ⟨(some 5), none, .call (.c (.func (.func 20) #[] #[])) [(.t 4), (.c (i64 5))]⟩, q 6 (.bin .add (.c (i64 1)) (.t 5)), q 7 (.build [(i64 0), (i64 0), (i64 0), (i64 0), (i64 0), (str []), nils, nils] [(0, 1, (.t 6))]), ⟨(some 3), none, .alloc [(i64 0), (i64 0), (i64 0), (i64 0), (i64 0), (str []), nils, nils]⟩, ⟨none, none, .st 8 (.t 3) (.t 7)⟩])
 (.seq (.ops [q 8 (.mv (.t 0)), ⟨(some 9), none, .call (.c (.func (.func 34) #[] #[])) [(.t 8), (.c (i64 24)), (.c (i64 5))]⟩, q 10 (.fld 6 (.t 3)), ⟨none, none, .st 1 (.t 10) (.t 9)⟩])
 (.seq (.seq (.ops [q 11 (.fld 0 (.t 3)), q 12 (.ld false 1 (.t 11)), q 13 (.bin .neq (.t 12) (.c (i64 1)))])
 (.cond (.t 13) (.seq (.ops [q 14 (.mv (.t 0)), ⟨(some 15), none, .call (.c (.func (.func 20) #[] #[])) [(.t 14), (.c (i64 6))]⟩, q 16 (.bin .add (.c (i64 1)) (.t 15)), q 17 (.fld 2 (.t 3)), ⟨none, none, .st 1 (.t 17) (.t 16)⟩])
 (.seq (.ops [q 18 (.mv (.t 0)), ⟨(some 19), none, .call (.c (.func (.func 20) #[] #[])) [(.t 18), (.c (i64 3))]⟩, q 20 (.fld 3 (.t 3)), ⟨none, none, .st 1 (.t 20) (.t 19)⟩])
 (.seq (.ops [q 21 (.fld 6 (.t 3)), q 22 (.ld false 1 (.t 21)), q 23 (.fld 2 (.t 3)), q 24 (.ld false 1 (.t 23)), q 25 (.fld 3 (.t 3)), q 26 (.ld false 1 (.t 25)), q 27 (.bin .add (.t 24) (.t 26)), ⟨(some 28), none, .call (.c (.func (.func 35) #[] #[])) [(.t 22), (.c nils), (.t 27)]⟩, q 29 (.part false 0 1 (.t 28)), q 30 (.fld 7 (.t 3)), ⟨none, none, .st 1 (.t 30) (.t 29)⟩])
 (.ops [q 31 (.mv (.t 0)), ⟨(some 32), none, .bsl 2 [(str []), (str [])] [(0, 1, (.c (str [97]))), (1, 1, (.c (str [98])))]⟩, ⟨(some 33), none, .call (.c (.func (.func 37) #[] #[])) [(.t 31), (.t 32)]⟩, ⟨(some 34), none, .call (.c (.func (.func 36) #[] #[])) [(.t 33)]⟩, q 35 (.fld 5 (.t 3)), ⟨none, none, .st 1 (.t 35) (.t 34)⟩])))) .skip))
 (.seq (.seq (.ops [q 36 (.fld 0 (.t 3)), q 37 (.ld false 1 (.t 36)), q 38 (.bin .eql (.t 37) (.c (i64 4)))])
 (.cond (.t 38) (.ops [q 39 (.mv (.t 0)), ⟨(some 40), none, .call (.c (.func (.func 20) #[] #[])) [(.t 39), (.c (i64 3))]⟩, q 41 (.fld 1 (.t 3)), ⟨none, none, .st 1 (.t 41) (.t 40)⟩]) .skip))
 (.seq (.seq (.ops [q 42 (.fld 0 (.t 3)), q 43 (.ld false 1 (.t 42)), q 44 (.bin .eql (.t 43) (.c (i64 5)))])
 (.cond (.t 44) (.ops [q 45 (.mv (.t 0)), ⟨(some 46), none, .call (.c (.func (.func 20) #[] #[])) [(.t 45), (.c (i64 9))]⟩, q 47 (.fld 4 (.t 3)), ⟨none, none, .st 1 (.t 47) (.t 46)⟩]) .skip))
 (.seq (.seq (.ops [q 48 (.mv (.t 0)), ⟨(some 49), none, .call (.c (.func (.func 38) #[] #[])) [(.t 48), (.c (i64 10))]⟩])
 (.cond (.t 49) (.seq (.ops [q 50 (.mv (.t 0)), ⟨(some 51), none, .call (.c (.func (.func 20) #[] #[])) [(.t 50), (.c (i64 7))]⟩])
 (.block 0 (.seq (.ops [q 60 (.bin .eql (.t 51) (.c (i64 0))), q 59 (.mv (.t 60))])
 (.cond (.t 59) (.ops [q 61 (.mv (.t 0)), ⟨(some 62), none, .call (.c (.func (.func 20) #[] #[])) [(.t 61), (.c (i64 7))]⟩, q 63 (.fld 0 (.t 3)), ⟨none, none, .st 1 (.t 63) (.t 62)⟩]) (.seq (.ops [q 65 (.bin .eql (.t 51) (.c (i64 1))), q 64 (.mv (.t 65))])
 (.cond (.t 64) (.ops [q 66 (.mv (.t 0)), ⟨(some 67), none, .call (.c (.func (.func 20) #[] #[])) [(.t 66), (.c (i64 5))]⟩, q 68 (.bin .sub (.t 67) (.c (i64 1))), q 69 (.fld 1 (.t 3)), ⟨none, none, .st 1 (.t 69) (.t 68)⟩]) (.seq (.ops [q 71 (.bin .eql (.t 51) (.c (i64 2))), q 70 (.mv (.t 71))])
 (.cond (.t 70) (.ops [q 72 (.mv (.t 0)), ⟨(some 73), none, .call (.c (.func (.func 20) #[] #[])) [(.t 72), (.c (i64 22))]⟩, q 74 (.fld 2 (.t 3)), ⟨none, none, .st 1 (.t 74) (.t 73)⟩]) (.seq (.ops [q 76 (.bin .eql (.t 51) (.c (i64 3))), q 75 (.mv (.t 76))])
 (.cond (.t 75) (.ops [q 77 (.mv (.t 0)), ⟨(some 78), none, .call (.c (.func (.func 20) #[] #[])) [(.t 77), (.c (i64 6))]⟩, q 79 (.fld 3 (.t 3)), ⟨none, none, .st 1 (.t 79) (.t 78)⟩]) (.seq (.ops [q 81 (.bin .eql (.t 51) (.c (i64 4))), q 80 (.mv (.t 81))])
 (.cond (.t 80) (.ops [⟨(some 82), none, .bsl 3 [(i64 0), (i64 0), (i64 0)] [(0, 1, (.c (i64 (-1)))), (1, 1, (.c (i64 40))), (2, 1, (.c (i64 41)))]⟩, q 83 (.mv (.t 0)), ⟨(some 84), none, .call (.c (.func (.func 20) #[] #[])) [(.t 83), (.c (i64 3))]⟩, q 85 (.idx 1 (.t 82) (.t 84)), q 86 (.ld false 1 (.t 85)), q 87 (.fld 4 (.t 3)), ⟨none, none, .st 1 (.t 87) (.t 86)⟩]) (.seq (.ops [q 89 (.bin .eql (.t 51) (.c (i64 5))), q 88 (.mv (.t 89))])
 (.cond (.t 88) (.ops [q 90 (.mv (.t 0)), q 91 (.mv (.t 0)), ⟨(some 92), none, .call (.c (.func (.func 20) #[] #[])) [(.t 91), (.c (i64 3))]⟩, q 93 (.bin .add (.c (i64 31)) (.t 92)), ⟨(some 94), none, .call (.c (.func (.func 39) #[] #[])) [(.t 90), (.t 93)]⟩, q 95 (.fld 5 (.t 3)), ⟨none, none, .st 1 (.t 95) (.t 94)⟩]) (.dopx (.tk (q 52 (.fld 7 (.t 3))) (.tk (q 53 (.ld false 1 (.t 52))) (.tk (q 54 (.mv (.t 0))) (.sq (⟨(some 55), none, .call (.c (.func (.func 20) #[] #[])) [(.t 54), (.c (i64 25))]⟩) (.sq (⟨(some 56), none, .bsl 1 [(i64 0)] [(0, 1, (.t 55))]⟩) (.lt (⟨(some 57), none, .app 1 8 (.t 53) (.t 56)⟩) (.tk (q 58 (.fld 7 (.t 3))) (.lt (⟨none, none, .st 1 (.t 58) (.t 57)⟩) .nil))))))))))))))))))))))) .skip))
 (.seq (.ops [q 96 (.ld true 8 (.t 3)), ⟨none, none, .st 8 (.t 2) (.t 96)⟩])
 .ret))))))))
theorem w_spec_l01Src_l12State {args : List Value} {h : H} {Q : Value → H → Prop} (hl : args.length ≤ 97) (hk : wpc Try.prog b_spec_l01Src_l12State (retw [.cell 2 true 8] Q) (argsFr args) h) : AC Try.prog 17 args h Q :=
  AC.of_wpcx mixedOrders Try.func17 (by kernel_rfl) (by kernel_rfl : prepFx Try.prog Try.f17 = some ⟨97, [.cell 2 true 8], b_spec_l01Src_l12State⟩) hl hk

set_option maxHeartbeats 3200000 in
theorem src_state {h : H} {b : Nat} {v : Value} {l : List UInt8} (hs : Src v l h b) : AC Try.prog 17 [ptr b 0] h fun r h' => (∃ (s : UState) (uh um : Value), r = .agg (s.cells uh um).toArray ∧ Sl h' uh 1 (ints s.held) ∧ Sl h' um 1 (ints s.mine) ∧ (New h uh ∧ New h um) ∧ s.held.length ≤ 24 ∧ s.mine.length ≤ 26) ∧ Drew v l b h h' := by
  have hkv := hs.sl.known
  refine w_spec_l01Src_l12State (by simp) ?_
  unfold b_spec_l01Src_l12State
  -- the first: two boxes, the phase
  refine wpc_cut2 (fun f h1 => ∃ (b2 b3 : Nat) (k : Int), f 0 = ptr b 0 ∧ f 2 = ptr b2 0 ∧ f 3 = ptr b3 0 ∧ StEnv v l b b2 b3 h1 ∧ h.get b2 = none ∧ h.get b3 = none ∧ Src v l h1 b ∧ h1.get b2 = some ⟨zst, 8⟩ ∧ h1.get b3 = some ⟨(UState.mk (1 + k) 0 0 0 0 [] [] []).cells nils nils, 8⟩ ∧ Keep (fun x => x = b) h h1 ∧ 0 ≤ k ∧ k < 5) ?_ ?_
  · simp -implicitDefEqProofs only [go_sem]
    intro b2 hb2 n2
    have e2 := (Ext.refl h).set n2 ⟨zst, 8⟩
    simp -implicitDefEqProofs only [go_sem]
    refine AC_of (src_n (hs.ext e2) (by omega)) ?_
    rintro _ h1 - ⟨⟨k, rfl, k0, k1, -⟩, d1⟩
    have hk := k1 (by omega)
    have D1 := (Drew.of_ext hs e2).trans d1
    have q2 : b2 ≠ b := fun e => by subst e; exact hs.known n2
    have g21 := d1.1.2.1 b2 _ q2 (H.set_get_same _ _ _)
    simp -implicitDefEqProofs only [go_sem, wrap_i64 (show -(9223372036854775808 : Int) ≤ (1 + k) by omega) (show (1 + k) < 9223372036854775808 by omega)]
    intro b3 hb3 n3
    have q3 : b3 ≠ b := fun e => by subst e; exact D1.2.known n3
    have z23 : b2 ≠ b3 := fun e => by rw [← e, g21] at n3; cases n3
    have n3h := D1.1.nones b3 n3
    have e3 := (Ext.refl h1).set n3 ⟨zst, 8⟩
    have D2 := (D1.ext e3)
    simp -implicitDefEqProofs only [go_sem, hb3]
    have D3 := Drew.set D2 n3h hs ⟨[i64 (1 + k), i64 0, i64 0, i64 0, i64 0, str [], nils, nils], 8⟩
    rw [H.set_set] at D3
    have hbb : h1.base ≤ b2 := by rw [D1.1.1]; exact hb2
    refine ⟨b2, b3, k, rfl, rfl, ⟨?_, ?_, D3.2.known, z23, q2, q3, ⟨hbb, hb3⟩, D3.2.sl.known⟩, n2, n3h, D3.2, ?_, H.set_get_same _ _ _, D3.1, k0, hk⟩
    · rw [H.set_get_ne _ _ _ _ z23, g21]; simp
    · rw [H.set_get_same]; simp
    · rw [if_neg z23]; exact g21
  rintro f hB ⟨b2, b3, k, f0, f2, f3, E, n2, n3, sB, g2B, g3B, kB, k0, hk⟩
  have hv3 : ∀ c, blk v = some c → c ≠ b3 := fun c hc e => hkv c hc (by rw [e]; exact n3)
  have hv2 : ∀ c, blk v = some c → c ≠ b2 := fun c hc e => hkv c hc (by rw [e]; exact n2)
  have hSd : ∀ c, c = b → stS b b2 b3 c := fun c e => .inl e
  have hb3B := E.base.2
  -- held
  refine wpc_cut (fun f h1 => StInv 25 v l b b2 b3 hB f h1 ∧ ∃ uh um, ∃ s : UState, h1.get b3 = some ⟨s.cells uh um, 8⟩ ∧ s.phase = 1 + k ∧ s.need = 0 ∧ s.mine = [] ∧ um = nils ∧ Sl h1 uh 1 (ints s.held) ∧ s.held.length ≤ 24) ?_ ?_
  · simp -implicitDefEqProofs only [go_sem, f0, f2, f3]
    refine AC_of (src_rising (most := 24) sB (by omega) (by omega)) ?_
    rintro uh h1 - ⟨⟨L, hL, oL⟩, d1⟩
    have g3 := d1.1.2.1 b3 _ E.z3 g3B
    have g2 := d1.1.2.1 b2 _ E.z2 g2B
    have hb3 : h1.base ≤ b3 := by rw [d1.1.1]; exact hb3B
    have v1 := oL.sl.vcl
    have o1 := oL.sl.one
    simp -implicitDefEqProofs only [go_sem, f2, f3, stc_get g3, hb3, v1, o1]
    obtain ⟨p1, p2, p3, p4, p5⟩ := st_put E (d1.1.mono hSd) d1.2 g2 ⟨[i64 (1 + k), i64 0, i64 0, i64 0, i64 0, str [], uh, nils], 8⟩ oL (OwnP.nil hB h1) hv3
    exact ⟨⟨⟨1 + k, 0, 0, 0, 0, [], L, []⟩, uh, nils, [], by simp -implicitDefEqProofs only [go_sem, f0], by simp -implicitDefEqProofs only [go_sem, f2], by simp -implicitDefEqProofs only [go_sem, f3], p1, p2, p3, H.set_get_same _ _ _, p4, p5, (fun _ _ q => by cases q), hL, by simp, by simp⟩, uh, nils, ⟨1 + k, 0, 0, 0, 0, [], L, []⟩, rfl, rfl, rfl, rfl, rfl, p4.sl, hL⟩
  clear f0 f2 f3 f
  rintro f h1 ⟨⟨s, uh, um, rest, f0, f2, f3, kp, sr, g2, g3, oh, om, ap, lh, lm, lr⟩, uh', um', s', g3', e1, e2, e3, e4, e5, e6⟩
  rw [g3] at g3'
  simp only [Option.some.injEq, Ob.mk.injEq, UState.cells, List.cons.injEq, and_true, Value.int.injEq, true_and] at g3'
  obtain ⟨x1, x2, x3, x4, x5, x6, x7, x8⟩ := g3'
  obtain ⟨ph, tr, ne, sh, dn, dg, hl, mn⟩ := s
  simp only at x1 x2 x3 x4 x5 x6 g3 oh om lh lm
  have hph : ph = 1 + k := by rw [x1, e1]
  clear x1 x2 x3 x4 x5 x6 x7 x8 e1 e2 e3 e4 e5 e6
  have hb3 : h1.base ≤ b3 := by rw [kp.1]; exact hb3B
  -- need, stash, what is reserved, the digest
  refine wpc_cut (StInv 25 v l b b2 b3 hB) ?_ ?_
  · by_cases hp : ph = 1
    · simp -implicitDefEqProofs only [go_sem, f0, f2, f3, ldc_get g3, hp]
      exact ⟨⟨ph, tr, ne, sh, dn, dg, hl, mn⟩, uh, um, rest, by simp -implicitDefEqProofs only [go_sem, f0], by simp -implicitDefEqProofs only [go_sem, f2], by simp -implicitDefEqProofs only [go_sem, f3], kp, sr, g2, g3, oh, om, ap, lh, lm, lr⟩
    simp -implicitDefEqProofs only [go_sem, f0, f2, f3, ldc_get g3, hp]
    refine AC_of (src_n sr (by omega)) ?_
    rintro _ h2 - ⟨⟨k2, rfl, k20, k21, -⟩, d2⟩
    have hk2 := k21 (by omega)
    have G2 := d2.1.2.1 b2 _ E.z2 g2
    have G3 := d2.1.2.1 b3 _ E.z3 g3
    have B3 : h2.base ≤ b3 := by rw [d2.1.1]; exact hb3
    simp -implicitDefEqProofs only [go_sem, f0, f3, wrap_i64 (show -(9223372036854775808 : Int) ≤ (1 + k2) by omega) (show (1 + k2) < 9223372036854775808 by omega), stc_get G3, B3]
    obtain ⟨p1, p2, p3, p4, p5⟩ := st_put E (kp.trans (d2.1.mono hSd)) d2.2 G2 ⟨[i64 ph, i64 tr, i64 (1 + k2), i64 sh, i64 dn, str dg, uh, um], 8⟩ (oh.keepS d2.1 E.ne) (om.keepS d2.1 E.ne) hv3
    have P3 : (h2.set b3 ⟨[i64 ph, i64 tr, i64 (1 + k2), i64 sh, i64 dn, str dg, uh, um], 8⟩).get b3 = some ⟨[i64 ph, i64 tr, i64 (1 + k2), i64 sh, i64 dn, str dg, uh, um], 8⟩ := H.set_get_same _ _ _
    have PB : (h2.set b3 ⟨[i64 ph, i64 tr, i64 (1 + k2), i64 sh, i64 dn, str dg, uh, um], 8⟩).base ≤ b3 := B3
    generalize h2.set b3 ⟨[i64 ph, i64 tr, i64 (1 + k2), i64 sh, i64 dn, str dg, uh, um], 8⟩ = h3 at p1 p2 p3 p4 p5 P3 PB ⊢
    clear d2 G2 G3 B3
    refine AC_of (src_n p2 (by omega)) ?_
    rintro _ h4 - ⟨⟨k4, rfl, k40, k41, -⟩, d4⟩
    have hk4 := k41 (by omega)
    have G2 := d4.1.2.1 b2 _ E.z2 p3
    have G3 := d4.1.2.1 b3 _ E.z3 P3
    have B3 : h4.base ≤ b3 := by rw [d4.1.1]; exact PB
    simp -implicitDefEqProofs only [go_sem, f0, f3, stc_get G3, B3]
    obtain ⟨q1, q2, q3, q4, q5⟩ := st_put E (p1.trans (d4.1.mono hSd)) d4.2 G2 ⟨[i64 ph, i64 tr, i64 (1 + k2), i64 k4, i64 dn, str dg, uh, um], 8⟩ (p4.keepS d4.1 E.ne) (p5.keepS d4.1 E.ne) hv3
    have Q3 : (h4.set b3 ⟨[i64 ph, i64 tr, i64 (1 + k2), i64 k4, i64 dn, str dg, uh, um], 8⟩).get b3 = some ⟨[i64 ph, i64 tr, i64 (1 + k2), i64 k4, i64 dn, str dg, uh, um], 8⟩ := H.set_get_same _ _ _
    have QB : (h4.set b3 ⟨[i64 ph, i64 tr, i64 (1 + k2), i64 k4, i64 dn, str dg, uh, um], 8⟩).base ≤ b3 := B3
    generalize h4.set b3 ⟨[i64 ph, i64 tr, i64 (1 + k2), i64 k4, i64 dn, str dg, uh, um], 8⟩ = h5 at q1 q2 q3 q4 q5 Q3 QB ⊢
    clear d4 G2 G3 B3 p1 p2 p3 p4 p5 P3 PB
    obtain ⟨n, hn⟩ : ∃ n : Nat, 1 + k2 + k4 = n := ⟨(1 + k2 + k4).toNat, by omega⟩
    have hw : IntKind.i64.wrap (1 + k2 + k4) = (n : Int) := by rw [wrap_i64 (show -(9223372036854775808 : Int) ≤ (1 + k2 + k4) by omega) (show (1 + k2 + k4) < 9223372036854775808 by omega), hn]
    simp -implicitDefEqProofs only [go_sem, f3, ldc_get Q3, hw]
    refine AC_of (specReserve_ac (b := []) q4.sl (Sl.nil _ 1) (by omega) (by simp) (by omega)) ?_
    rintro _ h6 - ⟨⟨u, code, L, rst, rfl, -, ⟨hL, hrl⟩, oP⟩, e6⟩
    have G2 := e6.2.g b2 _ q3
    have G3 := e6.2.g b3 _ Q3
    have B3 : h6.base ≤ b3 := by rw [e6.1]; exact QB
    have v1 := oP.sl.vcl
    have o1 := oP.sl.one
    simp -implicitDefEqProofs only [go_sem, f3, stc_get G3, B3, v1, o1]
    have apu : Ap uh u := by
      obtain ⟨a, c, rfl, o⟩ := oP
      intro bb w1 w2
      rw [ob_len a _ _ (L ++ rst).length c] at w2
      exact q4.ap o bb w1 w2
    have oPB : OwnP hB h6 u L rst := by
      obtain ⟨a, c, rfl, o⟩ := oP
      rcases o with o | ⟨bb, cc, zz, w1, w2, w3, w4, w5, w6, w7⟩
      · exact ⟨a, c, rfl, .inl o⟩
      · exact ⟨a, c, rfl, .inr ⟨bb, cc, zz, w1, w2, w3, q1.nones bb w4, w5, w6, w7⟩⟩
    obtain ⟨r1, r2, r3, r4, r5⟩ := st_put E (q1.trans (e6.keep _)) (q2.ext e6) G2 ⟨[i64 ph, i64 tr, i64 (1 + k2), i64 k4, i64 dn, str dg, uh, u], 8⟩ (q4.ext e6) oPB hv3
    have R3 : (h6.set b3 ⟨[i64 ph, i64 tr, i64 (1 + k2), i64 k4, i64 dn, str dg, uh, u], 8⟩).get b3 = some ⟨[i64 ph, i64 tr, i64 (1 + k2), i64 k4, i64 dn, str dg, uh, u], 8⟩ := H.set_get_same _ _ _
    have RB : (h6.set b3 ⟨[i64 ph, i64 tr, i64 (1 + k2), i64 k4, i64 dn, str dg, uh, u], 8⟩).base ≤ b3 := B3
    generalize h6.set b3 ⟨[i64 ph, i64 tr, i64 (1 + k2), i64 k4, i64 dn, str dg, uh, u], 8⟩ = h7 at r1 r2 r3 r4 r5 R3 RB ⊢
    clear e6 G2 G3 B3 q1 q2 q3 q4 q5 Q3 QB oP oPB
    intro b32 hb32 n32
    have e32 := (Ext.refl h7).set n32 ⟨[str [97], str [98]], 2⟩
    have s32 : Sl (h7.set b32 ⟨[str [97], str [98]], 2⟩) (sl b32 0 2 2) 1 (strs [[97], [98]]) := Sl.of_get (c := 2) (z := 2) (rows := strs [[97], [98]]) (H.set_get_same _ _ _) (by decide) (strs_wid _)
    simp -implicitDefEqProofs only [go_sem, f0]
    refine AC_of (src_pick (r2.ext e32) s32 (by decide) (fun c hc e => by simp only [blk, Option.some.injEq] at hc; subst hc; subst e; exact r2.known n32)) ?_
    rintro _ h8 - ⟨⟨t, ht, rfl⟩, d8⟩
    have htl : t.length = 1 := by
      simp only [List.mem_cons, List.not_mem_nil, or_false] at ht
      rcases ht with rfl | rfl <;> rfl
    simp -implicitDefEqProofs only [go_sem]
    refine (specDigest_pc _ t (by omega)).use ?_
    obtain ⟨dd, hdd⟩ : ∃ dd, digestOf t = dd := ⟨_, rfl⟩
    rw [hdd]
    have G2 := d8.1.2.1 b2 _ E.z2 (e32.2.g b2 _ r3)
    have G3 := d8.1.2.1 b3 _ E.z3 (e32.2.g b3 _ R3)
    have B3 : h8.base ≤ b3 := by rw [d8.1.1]; exact RB
    simp -implicitDefEqProofs only [go_sem, f3, stc_get G3, B3]
    obtain ⟨t1, t2, t3, t4, t5⟩ := st_put E ((r1.trans (e32.keep _)).trans (d8.1.mono hSd)) d8.2 G2 ⟨[i64 ph, i64 tr, i64 (1 + k2), i64 k4, i64 dn, str dd, uh, u], 8⟩ ((r4.ext e32).keepS d8.1 E.ne) ((r5.ext e32).keepS d8.1 E.ne) hv3
    refine ⟨⟨ph, tr, 1 + k2, k4, dn, dd, hl, L⟩, uh, u, rst, by simp -implicitDefEqProofs only [go_sem, f0], by simp -implicitDefEqProofs only [go_sem, f2], by simp -implicitDefEqProofs only [go_sem, f3], t1, t2, t3, H.set_get_same _ _ _, t4, t5, apu, lh, by simp only; omega, by omega⟩
  clear f0 f2 f3 kp sr g2 g3 oh om ap lh lm lr hb3 hph f
  -- tries
  rintro f h1 ⟨s, uh, um, rest, f0, f2, f3, kp, sr, g2, g3, oh, om, ap, lh, lm, lr⟩
  have hb3 : h1.base ≤ b3 := by rw [kp.1]; exact hb3B
  refine wpc_cut (StInv 25 v l b b2 b3 hB) ?_ ?_
  · by_cases hp : s.phase = 4
    rotate_left
    · simp -implicitDefEqProofs only [go_sem, f0, f2, f3, ldc_get g3, hp]
      exact ⟨s, uh, um, rest, by simp -implicitDefEqProofs only [go_sem, f0], by simp -implicitDefEqProofs only [go_sem, f2], by simp -implicitDefEqProofs only [go_sem, f3], kp, sr, g2, g3, oh, om, ap, lh, lm, lr⟩
    simp -implicitDefEqProofs only [go_sem, f0, f2, f3, ldc_get g3, hp]
    refine AC_of (src_n sr (by omega)) ?_
    rintro _ h2 - ⟨⟨k2, rfl, k20, k21, -⟩, d2⟩
    have G2 := d2.1.2.1 b2 _ E.z2 g2
    have G3 := d2.1.2.1 b3 _ E.z3 g3
    have B3 : h2.base ≤ b3 := by rw [d2.1.1]; exact hb3
    simp -implicitDefEqProofs only [go_sem, f0, f3, stc_get G3, B3]
    obtain ⟨p1, p2, p3, p4, p5⟩ := st_put E (kp.trans (d2.1.mono hSd)) d2.2 G2 ⟨[i64 s.phase, i64 k2, i64 s.need, i64 s.stash, i64 s.done, str s.digest, uh, um], 8⟩ (oh.keepS d2.1 E.ne) (om.keepS d2.1 E.ne) hv3
    exact ⟨⟨s.phase, k2, s.need, s.stash, s.done, s.digest, s.held, s.mine⟩, uh, um, rest, by simp -implicitDefEqProofs only [go_sem, f0], by simp -implicitDefEqProofs only [go_sem, f2], by simp -implicitDefEqProofs only [go_sem, f3], p1, p2, p3, H.set_get_same _ _ _, p4, p5, ap, lh, lm, lr⟩
  clear f0 f2 f3 kp sr g2 g3 oh om ap lh lm lr hb3 f
  -- done
  rintro f h1 ⟨s, uh, um, rest, f0, f2, f3, kp, sr, g2, g3, oh, om, ap, lh, lm, lr⟩
  have hb3 : h1.base ≤ b3 := by rw [kp.1]; exact hb3B
  refine wpc_cut (StInv 25 v l b b2 b3 hB) ?_ ?_
  · by_cases hp : s.phase = 5
    rotate_left
    · simp -implicitDefEqProofs only [go_sem, f0, f2, f3, ldc_get g3, hp]
      exact ⟨s, uh, um, rest, by simp -implicitDefEqProofs only [go_sem, f0], by simp -implicitDefEqProofs only [go_sem, f2], by simp -implicitDefEqProofs only [go_sem, f3], kp, sr, g2, g3, oh, om, ap, lh, lm, lr⟩
    simp -implicitDefEqProofs only [go_sem, f0, f2, f3, ldc_get g3, hp]
    refine AC_of (src_n sr (by omega)) ?_
    rintro _ h2 - ⟨⟨k2, rfl, k20, k21, -⟩, d2⟩
    have G2 := d2.1.2.1 b2 _ E.z2 g2
    have G3 := d2.1.2.1 b3 _ E.z3 g3
    have B3 : h2.base ≤ b3 := by rw [d2.1.1]; exact hb3
    simp -implicitDefEqProofs only [go_sem, f0, f3, stc_get G3, B3]
    obtain ⟨p1, p2, p3, p4, p5⟩ := st_put E (kp.trans (d2.1.mono hSd)) d2.2 G2 ⟨[i64 s.phase, i64 s.tries, i64 s.need, i64 s.stash, i64 k2, str s.digest, uh, um], 8⟩ (oh.keepS d2.1 E.ne) (om.keepS d2.1 E.ne) hv3
    exact ⟨⟨s.phase, s.tries, s.need, s.stash, k2, s.digest, s.held, s.mine⟩, uh, um, rest, by simp -implicitDefEqProofs only [go_sem, f0], by simp -implicitDefEqProofs only [go_sem, f2], by simp -implicitDefEqProofs only [go_sem, f3], p1, p2, p3, H.set_get_same _ _ _, p4, p5, ap, lh, lm, lr⟩
  clear f0 f2 f3 kp sr g2 g3 oh om ap lh lm lr hb3 f
  -- an odd one
  rintro f h1 ⟨s, uh, um, rest, f0, f2, f3, kp, sr, g2, g3, oh, om, ap, lh, lm, lr⟩
  have hb3 : h1.base ≤ b3 := by rw [kp.1]; exact hb3B
  refine wpc_cut (fun f h' => StInv 26 v l b b2 b3 hB f h') ?_ ?_
  · simp -implicitDefEqProofs only [go_sem, f0]
    refine AC_of (src_one sr (by omega)) ?_
    rintro _ h2 - ⟨⟨t, rfl⟩, d2⟩
    replace g2 := d2.1.2.1 b2 _ E.z2 g2
    replace g3 := d2.1.2.1 b3 _ E.z3 g3
    replace oh := oh.keepS d2.1 E.ne
    replace om := om.keepS d2.1 E.ne
    replace kp := kp.trans (d2.1.mono hSd)
    replace sr := d2.2
    replace hb3 : h2.base ≤ b3 := by rw [d2.1.1]; exact hb3
    clear d2
    cases t
    · simp -implicitDefEqProofs only [go_sem, f0, f2, f3]
      exact ⟨s, uh, um, rest, by simp -implicitDefEqProofs only [go_sem, f0], by simp -implicitDefEqProofs only [go_sem, f2], by simp -implicitDefEqProofs only [go_sem, f3], kp, sr, g2, g3, oh, om, ap, lh, by omega, lr⟩
    simp -implicitDefEqProofs only [go_sem, f0, f2, f3]
    refine AC_of (src_n sr (by omega)) ?_
    rintro _ h3 - ⟨⟨k, rfl, k0, k1, -⟩, d2⟩
    have hk7 := k1 (by omega)
    replace g2 := d2.1.2.1 b2 _ E.z2 g2
    replace g3 := d2.1.2.1 b3 _ E.z3 g3
    replace oh := oh.keepS d2.1 E.ne
    replace om := om.keepS d2.1 E.ne
    replace kp := kp.trans (d2.1.mono hSd)
    replace sr := d2.2
    replace hb3 : h3.base ≤ b3 := by rw [d2.1.1]; exact hb3
    clear d2
    obtain rfl | rfl | rfl | rfl | rfl | rfl | rfl : k = 0 ∨ k = 1 ∨ k = 2 ∨ k = 3 ∨ k = 4 ∨ k = 5 ∨ k = 6 := by omega
    · simp -implicitDefEqProofs only [go_sem, f0, f2, f3]
      refine AC_of (src_n sr (by omega)) ?_
      rintro _ h2 - ⟨⟨k2, rfl, k20, k21, -⟩, d2⟩
      have hk2 := k21 (by omega)
      have G2 := d2.1.2.1 b2 _ E.z2 g2
      have G3 := d2.1.2.1 b3 _ E.z3 g3
      have B3 : h2.base ≤ b3 := by rw [d2.1.1]; exact hb3
      simp -implicitDefEqProofs only [go_sem, f0, f3, stc_get G3, B3]
      obtain ⟨p1, p2, p3, p4, p5⟩ := st_put E (kp.trans (d2.1.mono hSd)) d2.2 G2 ⟨[i64 k2, i64 s.tries, i64 s.need, i64 s.stash, i64 s.done, str s.digest, uh, um], 8⟩ (oh.keepS d2.1 E.ne) (om.keepS d2.1 E.ne) hv3
      exact ⟨⟨k2, s.tries, s.need, s.stash, s.done, s.digest, s.held, s.mine⟩, uh, um, rest, by simp -implicitDefEqProofs only [go_sem, f0], by simp -implicitDefEqProofs only [go_sem, f2], by simp -implicitDefEqProofs only [go_sem, f3], p1, p2, p3, H.set_get_same _ _ _, p4, p5, ap, lh, by simp only; omega, lr⟩
    · simp -implicitDefEqProofs only [go_sem, f0, f2, f3]
      refine AC_of (src_n sr (by omega)) ?_
      rintro _ h2 - ⟨⟨k2, rfl, k20, k21, -⟩, d2⟩
      have hk2 := k21 (by omega)
      have G2 := d2.1.2.1 b2 _ E.z2 g2
      have G3 := d2.1.2.1 b3 _ E.z3 g3
      have B3 : h2.base ≤ b3 := by rw [d2.1.1]; exact hb3
      simp -implicitDefEqProofs only [go_sem, f0, f3, stc_get G3, B3, wrap_i64 (show -(9223372036854775808 : Int) ≤ (k2 - 1) by omega) (show (k2 - 1) < 9223372036854775808 by omega)]
      obtain ⟨p1, p2, p3, p4, p5⟩ := st_put E (kp.trans (d2.1.mono hSd)) d2.2 G2 ⟨[i64 s.phase, i64 (k2 - 1), i64 s.need, i64 s.stash, i64 s.done, str s.digest, uh, um], 8⟩ (oh.keepS d2.1 E.ne) (om.keepS d2.1 E.ne) hv3
      exact ⟨⟨s.phase, k2 - 1, s.need, s.stash, s.done, s.digest, s.held, s.mine⟩, uh, um, rest, by simp -implicitDefEqProofs only [go_sem, f0], by simp -implicitDefEqProofs only [go_sem, f2], by simp -implicitDefEqProofs only [go_sem, f3], p1, p2, p3, H.set_get_same _ _ _, p4, p5, ap, lh, by simp only; omega, lr⟩
    · simp -implicitDefEqProofs only [go_sem, f0, f2, f3]
      refine AC_of (src_n sr (by omega)) ?_
      rintro _ h2 - ⟨⟨k2, rfl, k20, k21, -⟩, d2⟩
      have hk2 := k21 (by omega)
      have G2 := d2.1.2.1 b2 _ E.z2 g2
      have G3 := d2.1.2.1 b3 _ E.z3 g3
      have B3 : h2.base ≤ b3 := by rw [d2.1.1]; exact hb3
      simp -implicitDefEqProofs only [go_sem, f0, f3, stc_get G3, B3]
      obtain ⟨p1, p2, p3, p4, p5⟩ := st_put E (kp.trans (d2.1.mono hSd)) d2.2 G2 ⟨[i64 s.phase, i64 s.tries, i64 k2, i64 s.stash, i64 s.done, str s.digest, uh, um], 8⟩ (oh.keepS d2.1 E.ne) (om.keepS d2.1 E.ne) hv3
      exact ⟨⟨s.phase, s.tries, k2, s.stash, s.done, s.digest, s.held, s.mine⟩, uh, um, rest, by simp -implicitDefEqProofs only [go_sem, f0], by simp -implicitDefEqProofs only [go_sem, f2], by simp -implicitDefEqProofs only [go_sem, f3], p1, p2, p3, H.set_get_same _ _ _, p4, p5, ap, lh, by simp only; omega, lr⟩
    · simp -implicitDefEqProofs only [go_sem, f0, f2, f3]
      refine AC_of (src_n sr (by omega)) ?_
      rintro _ h2 - ⟨⟨k2, rfl, k20, k21, -⟩, d2⟩
      have hk2 := k21 (by omega)
      have G2 := d2.1.2.1 b2 _ E.z2 g2
      have G3 := d2.1.2.1 b3 _ E.z3 g3
      have B3 : h2.base ≤ b3 := by rw [d2.1.1]; exact hb3
      simp -implicitDefEqProofs only [go_sem, f0, f3, stc_get G3, B3]
      obtain ⟨p1, p2, p3, p4, p5⟩ := st_put E (kp.trans (d2.1.mono hSd)) d2.2 G2 ⟨[i64 s.phase, i64 s.tries, i64 s.need, i64 k2, i64 s.done, str s.digest, uh, um], 8⟩ (oh.keepS d2.1 E.ne) (om.keepS d2.1 E.ne) hv3
      exact ⟨⟨s.phase, s.tries, s.need, k2, s.done, s.digest, s.held, s.mine⟩, uh, um, rest, by simp -implicitDefEqProofs only [go_sem, f0], by simp -implicitDefEqProofs only [go_sem, f2], by simp -implicitDefEqProofs only [go_sem, f3], p1, p2, p3, H.set_get_same _ _ _, p4, p5, ap, lh, by simp only; omega, lr⟩
    · simp -implicitDefEqProofs only [go_sem, f0, f2, f3]
      intro b82 hb82 n82
      have e82 := (Ext.refl h3).set n82 ⟨[i64 (-1), i64 40, i64 41], 3⟩
      simp -implicitDefEqProofs only [go_sem, f0]
      refine AC_of (src_n (sr.ext e82) (by omega)) ?_
      rintro _ h2 - ⟨⟨k2, rfl, k20, k21, -⟩, d2⟩
      have hk2 := k21 (by omega)
      have q82 : b82 ≠ b := fun e => by subst e; exact sr.known n82
      have g82 := d2.1.2.1 b82 _ q82 (H.set_get_same _ _ _)
      obtain ⟨n, y, rfl, hn3, hy⟩ : ∃ (n : Nat) (y : Int), k2 = n ∧ n < 3 ∧ ldc h2 b82 n 1 = some [i64 y] := by
        obtain rfl | rfl | rfl : k2 = 0 ∨ k2 = 1 ∨ k2 = 2 := by omega
        · exact ⟨0, -1, rfl, by omega, by rw [ldc_get g82]; rfl⟩
        · exact ⟨1, 40, rfl, by omega, by rw [ldc_get g82]; rfl⟩
        · exact ⟨2, 41, rfl, by omega, by rw [ldc_get g82]; rfl⟩
      have G2 := d2.1.2.1 b2 _ E.z2 (e82.2.g b2 _ g2)
      have G3 := d2.1.2.1 b3 _ E.z3 (e82.2.g b3 _ g3)
      have B3 : h2.base ≤ b3 := by rw [d2.1.1]; exact hb3
      simp -implicitDefEqProofs only [go_sem, f3, show (n : Int) < ((3 : Nat) : Int) by omega, Int.natCast_nonneg, Int.toNat_natCast, Nat.mul_one, hy, stc_get G3, B3]
      obtain ⟨p1, p2, p3, p4, p5⟩ := st_put E ((kp.trans (e82.keep _)).trans (d2.1.mono hSd)) d2.2 G2 ⟨[i64 s.phase, i64 s.tries, i64 s.need, i64 s.stash, i64 y, str s.digest, uh, um], 8⟩ ((oh.ext e82).keepS d2.1 E.ne) ((om.ext e82).keepS d2.1 E.ne) hv3
      exact ⟨⟨s.phase, s.tries, s.need, s.stash, y, s.digest, s.held, s.mine⟩, uh, um, rest, by simp -implicitDefEqProofs only [go_sem, f0], by simp -implicitDefEqProofs only [go_sem, f2], by simp -implicitDefEqProofs only [go_sem, f3], p1, p2, p3, H.set_get_same _ _ _, p4, p5, ap, lh, by simp only; omega, lr⟩
    · simp -implicitDefEqProofs only [go_sem, f0, f2, f3]
      refine AC_of (src_n sr (by omega)) ?_
      rintro _ h2 - ⟨⟨k2, rfl, k20, k21, -⟩, d2⟩
      have hk2 := k21 (by omega)
      obtain ⟨n, hn⟩ : ∃ n : Nat, 31 + k2 = n := ⟨(31 + k2).toNat, by omega⟩
      have hw : IntKind.i64.wrap (31 + k2) = (n : Int) := by rw [wrap_i64 (show -(9223372036854775808 : Int) ≤ (31 + k2) by omega) (show (31 + k2) < 9223372036854775808 by omega), hn]
      simp -implicitDefEqProofs only [go_sem, f0, hw]
      refine AC_of (src_bytes d2.2 (n := n) (by omega)) ?_
      rintro _ h4 - ⟨⟨dd, hdd, rfl⟩, d4⟩
      have D := (d2.1.trans d4.1)
      have G2 := D.2.1 b2 _ E.z2 g2
      have G3 := D.2.1 b3 _ E.z3 g3
      have B3 : h4.base ≤ b3 := by rw [D.1]; exact hb3
      simp -implicitDefEqProofs only [go_sem, f0, f3, stc_get G3, B3]
      obtain ⟨p1, p2, p3, p4, p5⟩ := st_put E (kp.trans (D.mono hSd)) d4.2 G2 ⟨[i64 s.phase, i64 s.tries, i64 s.need, i64 s.stash, i64 s.done, str dd, uh, um], 8⟩ (oh.keepS D E.ne) (om.keepS D E.ne) hv3
      exact ⟨⟨s.phase, s.tries, s.need, s.stash, s.done, dd, s.held, s.mine⟩, uh, um, rest, by simp -implicitDefEqProofs only [go_sem, f0], by simp -implicitDefEqProofs only [go_sem, f2], by simp -implicitDefEqProofs only [go_sem, f3], p1, p2, p3, H.set_get_same _ _ _, p4, p5, ap, lh, by simp only; omega, lr⟩
    · simp -implicitDefEqProofs only [go_sem, f0, f2, f3]
      refine dopX_of (but h3 b) (but_sub h3 b) ?_
      have gB3 : (but h3 b).get b3 = some ⟨s.cells uh um, 8⟩ := by rw [but_get E.z3]; exact g3
      simp -implicitDefEqProofs only [go_sem, f0, f2, f3, ldc_get gB3]
      refine AC_of (src_n sr (by omega)) ?_
      rintro _ h2 - ⟨⟨k2, rfl, k20, k21, -⟩, d2⟩
      have hk2 := k21 (by omega)
      have s2 : Sub (but h3 b) h2 := but_keep d2.1
      refine ⟨s2, ?_⟩
      simp -implicitDefEqProofs only [go_sem]
      intro b56 hb56 n56
      have e56 := (Ext.refl h2).set n56 ⟨[i64 k2], 1⟩
      refine ⟨s2.trans e56.2, ?_⟩
      have om2 := (om.keepS d2.1 E.ne).ext e56
      have kp2 := (kp.trans (d2.1.mono hSd)).trans (e56.keep _)
      obtain ⟨am, cm, rfl⟩ := om.shape
      simp -implicitDefEqProofs only [go_sem]
      refine appW_pre (h0 := hB) (fun c hc => kp2.nones c hc) om2 (by omega) ?_
      intro v' b' y q1 qo qn q2
      have nob : KH.ob uh ≠ some b' := fun e => by
        rcases qo with qo | qo
        · exact ap b' e qo
        · obtain ⟨_, _, z, w⟩ := ((oh.keepS d2.1 E.ne).ext e56).ob_new e
          rw [qo] at w; cases w
      have zb3 : b3 ≠ b' := fun e => E.n3 (by rw [e]; exact q1)
      have zb2 : b2 ≠ b' := fun e => E.n2 (by rw [e]; exact q1)
      have zb : b' ≠ b := fun e => E.nb (by rw [← e]; exact q1)
      have G2 : ((h2.set b56 ⟨[i64 k2], 1⟩).set b' y).get b2 = some ⟨zst, 8⟩ := by rw [H.set_get_ne _ _ _ _ zb2]; exact e56.2.g b2 _ (d2.1.2.1 b2 _ E.z2 g2)
      have G3 : ((h2.set b56 ⟨[i64 k2], 1⟩).set b' y).get b3 = some ⟨s.cells uh (.slice am s.mine.length cm), 8⟩ := by rw [H.set_get_ne _ _ _ _ zb3]; exact e56.2.g b3 _ (d2.1.2.1 b3 _ E.z3 g3)
      have kp3 : Keep (stS b b2 b3) hB ((h2.set b56 ⟨[i64 k2], 1⟩).set b' y) := kp2.set (.inr q1) _
      have sr3 : Src v l ((h2.set b56 ⟨[i64 k2], 1⟩).set b' y) b := (d2.2.ext e56).set zb (fun x hx e => E.kn x hx (by rw [e]; exact q1)) _
      have oh3 : Own hB ((h2.set b56 ⟨[i64 k2], 1⟩).set b' y) uh 1 (ints s.held) := ((oh.keepS d2.1 E.ne).ext e56).setOb nob _
      have B3 : ((h2.set b56 ⟨[i64 k2], 1⟩).set b' y).base ≤ b3 := by simp only [H.set_base]; rw [d2.1.1]; exact hb3
      generalize (h2.set b56 ⟨[i64 k2], 1⟩).set b' y = h6 at q2 G2 G3 kp3 sr3 oh3 B3 ⊢
      have v1 := q2.sl.vcl
      have o1 := q2.sl.one
      simp -implicitDefEqProofs only [go_sem, f3, stc_get G3, B3, v1, o1]
      obtain ⟨p1, p2, p3, p4, p5⟩ := st_put E kp3 sr3 G2 ⟨[i64 s.phase, i64 s.tries, i64 s.need, i64 s.stash, i64 s.done, str s.digest, uh, v'], 8⟩ oh3 q2 hv3
      exact ⟨⟨s.phase, s.tries, s.need, s.stash, s.done, s.digest, s.held, s.mine ++ [k2]⟩, uh, v', rest.drop 1, by simp -implicitDefEqProofs only [go_sem, f0], by simp -implicitDefEqProofs only [go_sem, f2], by simp -implicitDefEqProofs only [go_sem, f3], p1, p2, p3, H.set_get_same _ _ _, p4, p5, (fun bb w1 w2 => nob (by rw [← qn bb w2]; exact w1)), lh, by simp; omega, by rw [List.length_drop]; omega⟩
  clear f0 f2 f3 kp sr g2 g3 oh om ap lh lm lr hb3 f
  rintro f h1 ⟨s, uh, um, rest, f0, f2, f3, kp, sr, g2, g3, oh, om, ap, lh, lm, lr⟩
  have hb2 : h1.base ≤ b2 := by rw [kp.1]; exact E.base.1
  have u1 := oh.sl.one
  have u2 := om.sl.one
  simp -implicitDefEqProofs only [go_sem, f0, f2, f3, ldc_get g3, stc_get g2, hb2, u1, u2, ldc_get (H.set_get_same _ _ _)]
  refine ⟨⟨s, uh, um, rfl, (oh.set0 E.n2 _).sl, (om.set0 E.n2 _).sl, ⟨fun c hc => kB.nones c (oh.ob_new (blk_ob hc)).1, fun c hc => kB.nones c (by
    obtain ⟨a, cc, rfl, o⟩ := om
    have q := blk_ob hc
    rw [ob_len a _ _ (s.mine ++ rest).length cc] at q
    exact (o.ob_new q).1)⟩, lh, lm⟩, Keep.back1 (S := stS b b2 b3) (Ext.refl h) (((kB.mono hSd).trans kp).set (.inl (.inr (.inl rfl))) _) ?_, sr.set E.z2 hv2 _⟩
  rintro c (q | q | q)
  · exact .inl q
  · exact .inr (by rw [q]; exact n2)
  · exact .inr (by rw [q]; exact n3)
/-- spec.DrawStateBytes -/
def b_spec_DrawStateBytes : C := (.seq (.ops [⟨(some 2), none, .alloc [(i64 0), (i64 0), (i64 0), (i64 0), (i64 0), (str []), nils, nils]⟩])
 (.seq (.ops [q 3 (.mv (.t 0)), ⟨(some 4), none, .call (.c (.func (.func 16) #[] #[])) [(.t 3)]⟩, ⟨(some 5), none, .call (.c (.func (.func 17) #[] #[])) [(.t 4)]⟩, ⟨none, none, .st 8 (.t 2) (.t 5)⟩])
 .ret))
theorem w_spec_DrawStateBytes {args : List Value} {h : H} {Q : Value → H → Prop} (hl : args.length ≤ 6) (hk : wpc Try.prog b_spec_DrawStateBytes (retw [.cell 2 true 8] Q) (argsFr args) h) : AC Try.prog 4 args h Q :=
  AC.of_wpc mixedOrders Try.func4 (by kernel_rfl) (by kernel_rfl : prepF Try.prog Try.f4 = some ⟨6, [.cell 2 true 8], b_spec_DrawStateBytes⟩) hl hk

theorem drawStateBytes_ac {h : H} {v : Value} {l : List UInt8} (hv : Sl h v 1 (bys l)) (hn : l.length ≤ 1048576) : AC Try.prog 4 [v] h fun r h' => Ext h h' ∧ ∃ (s : UState) (uh um : Value), r = .agg (s.cells uh um).toArray ∧ Sl h' uh 1 (ints s.held) ∧ Sl h' um 1 (ints s.mine) ∧ s.held.length ≤ 24 ∧ s.mine.length ≤ 26 := by
  refine w_spec_DrawStateBytes (by simp) ?_
  unfold b_spec_DrawStateBytes
  simp -implicitDefEqProofs only [go_sem]
  intro b2 hb2 n2
  have e2 := (Ext.refl h).set n2 ⟨zst, 8⟩
  simp -implicitDefEqProofs only [go_sem]
  refine AC_of (source_ac (hv.ext e2) hn) ?_
  rintro _ h1 - ⟨b, rfl, nb, e1, hs⟩
  simp -implicitDefEqProofs only [go_sem]
  refine AC_of (src_state hs) ?_
  rintro _ h2 - ⟨⟨s, uh, um, rfl, q1, q2, ⟨w1, w2⟩, q3, q4⟩, d⟩
  have qb : b2 ≠ b := fun e => by subst e; rw [H.set_get_same] at nb; cases nb
  have G2 := d.1.2.1 b2 _ qb (e1.2.g b2 _ (H.set_get_same _ _ _))
  have E2 : Ext h h2 := Keep.ext (S := fun x => x = b) ((Ext.refl h)) (((e2.trans e1).keep _).trans d.1) (fun c hc => by subst hc; exact (e2.none nb))
  have B2 : h2.base ≤ b2 := by rw [E2.1]; exact hb2
  have u1 := q1.one
  have u2 := q2.one
  simp -implicitDefEqProofs only [go_sem, stc_get G2, B2, u1, u2, ldc_get (H.set_get_same _ _ _)]
  have g21 := e1.2.g b2 _ (H.set_get_same h b2 ⟨zst, 8⟩)
  exact ⟨E2.set' n2 _, s, uh, um, rfl, q1.set (fun c hc e => by subst e; rw [w1 _ hc] at g21; cases g21) _, q2.set (fun c hc e => by subst e; rw [w2 _ hc] at g21; cases g21) _, q3, q4⟩
/-- spec.DrawStateRead -/
def b_spec_DrawStateRead : C := (.seq (.ops [q 2 (.mv (.c (str [])))])
 (.seq (.ops [q 5 (.mv (.t 0)), ⟨(some 6), none, .call (.c (.func (.func 16) #[] #[])) [(.t 5)]⟩, q 3 (.mv (.t 6))])
 (.seq (.ops [q 7 (.mv (.t 3)), ⟨(some 8), none, .call (.c (.func (.func 17) #[] #[])) [(.t 7)]⟩, ⟨(some 9), none, .call (.c (.func (.func 9) #[] #[])) [(.t 8)]⟩, q 4 (.mv (.t 9))])
 (.seq (.seq (.ops [q 10 (.mv (.t 3)), ⟨(some 11), none, .call (.c (.func (.func 20) #[] #[])) [(.t 10), (.c (i64 4))]⟩])
 (.block 0 (.seq (.ops [q 13 (.bin .eql (.t 11) (.c (i64 0))), q 12 (.mv (.t 13))])
 (.cond (.t 12) (.ops [q 14 (.mv (.t 3)), q 15 (.mv (.t 4)), ⟨(some 16), none, .call (.c (.func (.func 21) #[] #[])) [(.t 14), (.t 15)]⟩, q 4 (.mv (.t 16))]) (.seq (.ops [q 18 (.bin .eql (.t 11) (.c (i64 1))), q 17 (.mv (.t 18))])
 (.cond (.t 17) (.ops [q 19 (.mv (.t 4)), q 20 (.mv (.t 3)), q 21 (.mv (.t 4)), q 22 (.slen (.t 21)), q 23 (.bin .add (.t 22) (.c (i64 1))), ⟨(some 24), none, .call (.c (.func (.func 20) #[] #[])) [(.t 20), (.t 23)]⟩, q 25 (.ssl (.t 19) none (some (.t 24))), q 4 (.mv (.t 25))]) .skip))))))
 (.seq (.ops [q 26 (.mv (.t 4)), q 2 (.mv (.t 26))])
 .ret)))))
theorem w_spec_DrawStateRead {args : List Value} {h : H} {Q : Value → H → Prop} (hl : args.length ≤ 27) (hk : wpc Try.prog b_spec_DrawStateRead (retw [.tmp 2] Q) (argsFr args) h) : AC Try.prog 6 args h Q :=
  AC.of_wpc mixedOrders Try.func6 (by kernel_rfl) (by kernel_rfl : prepF Try.prog Try.f6 = some ⟨27, [.tmp 2], b_spec_DrawStateRead⟩) hl hk

theorem drawStateRead_ac {h : H} {v : Value} {l : List UInt8} (hv : Sl h v 1 (bys l)) (hn : l.length ≤ 1048576) : AC Try.prog 6 [v] h fun r h' => Ext h h' ∧ ∃ t : List UInt8, t.length ≤ 200 ∧ r = str t := by
  refine w_spec_DrawStateRead (by simp) ?_
  unfold b_spec_DrawStateRead
  simp -implicitDefEqProofs only [go_sem]
  refine AC_of (source_ac hv hn) ?_
  rintro _ h1 - ⟨b, rfl, nb, e1, hs⟩
  simp -implicitDefEqProofs only [go_sem]
  refine AC_of (src_state hs) ?_
  rintro _ h2 - ⟨⟨s, uh, um, rfl, q1, q2, -, q3, q4⟩, d2⟩
  simp -implicitDefEqProofs only [go_sem]
  refine (specStateBytes_pc s q1 q2 ⟨by omega, by omega⟩).use ?_
  have hl : (stateBytes s).length ≤ 112 := by
    unfold stateBytes
    split
    · rename_i hok; exact stateB_le hok
    · simp
  obtain ⟨t, ht⟩ : ∃ t, stateBytes s = t := ⟨_, rfl⟩
  rw [ht] at hl ⊢
  simp -implicitDefEqProofs only [go_sem]
  have fin : ∀ {h' : KH.H}, Drew v l b h1 h' → Ext h h' := fun {h'} D => Keep.ext (S := fun x => x = b) (Ext.refl h) ((e1.keep _).trans D.1) (fun c hc => by subst hc; exact nb)
  refine AC_of (src_n d2.2 (by omega)) ?_
  rintro _ h3 - ⟨⟨k, rfl, k0, k1, -⟩, d3⟩
  have D3 := d2.trans d3
  have hk := k1 (by omega)
  by_cases h0 : k = 0
  · subst h0
    simp -implicitDefEqProofs only [go_sem]
    refine AC_of (src_spoil D3.2 (by omega)) ?_
    rintro _ h4 - ⟨⟨w, hw, rfl⟩, d4⟩
    simp -implicitDefEqProofs only [go_sem]
    exact ⟨fin (D3.trans d4), w, by omega, rfl⟩
  by_cases h1 : k = 1
  · subst h1
    simp -implicitDefEqProofs only [go_sem, wrap_i64 (show -(9223372036854775808 : Int) ≤ ((t.length : Int) + 1) by omega) (show ((t.length : Int) + 1) < 9223372036854775808 by omega)]
    refine AC_of (src_n D3.2 (by omega)) ?_
    rintro _ h4 - ⟨⟨q, rfl, q0, q1, q2⟩, d4⟩
    have hq : q ≤ t.length := by
      by_cases h : 1 < (t.length : Int) + 1
      · have := q1 h; omega
      · have := q2 (by omega); omega
    simp -implicitDefEqProofs only [go_sem, q0, hq]
    exact ⟨fin (D3.trans d4), t.take q.toNat, by rw [List.length_take]; omega, rfl⟩
  · simp -implicitDefEqProofs only [go_sem, h0, h1]
    exact ⟨fin D3, t, by omega, rfl⟩
end Go.Proofs.Ytdofcojbjcpikaa
