/- A helper of this seat's claims (contracts of the functions): what it shows is shown for every input that its statements name, on no other condition. -/
import Derived.Test.YthjbhdmjfakfaaaGreatDoorC05
import Derived.Test.YthjbhdmjfakfaaaGreatDoorKD
import Derived.Test.YthjbhdmjfakfaaaGreatDoorMC06
set_option linter.unusedVariables false
set_option linter.unusedSimpArgs false
set_option maxRecDepth 100000
namespace Go.Proofs.YthjbhdmjfakfaaaGreatDoor
open Go.KH

theorem ints_wid (l : List Int) : Wid 1 (ints l) := Wid.map fun _ => rfl
end Go.Proofs.YthjbhdmjfakfaaaGreatDoor
namespace Go.Proofs.YthjbhdmjfakfaaaGreatDoor
open Go.KH
def b_impl_isState : C := (jo [⟨(some 1), none, .box (.t 0)⟩, q 2 (.mv (.c (.bool false)))]
 (.seq (.seq (.dops true (.tk (jf 3 0 1) (.tk (jl 4 3) (.sq (jc 5 140 [(.t 4), (.c (i64 1)), (.c (i64 5))]) (.tk (q 6 (.un .not (.t 5))) (.tk (jm 7 6) (.tk (qg 8 7 false (.fld 6 (.t 1))) (.tk (qg 9 7 false (.ld false 1 (.t 8))) (.sq (jcg 10 7 false 77 [(.t 9)]) (.tk (qg 11 7 false (.un .not (.t 10))) (.tk (q 12 (.pick (.t 7) (.c (.bool true)) (.t 11))) (.tk (jm 13 12) (.tk (qg 14 13 false (.fld 7 (.t 1))) (.tk (qg 15 13 false (.ld false 1 (.t 14))) (.sq (jcg 16 13 false 77 [(.t 15)]) (.tk (qg 17 13 false (.un .not (.t 16))) (.tk (q 18 (.pick (.t 13) (.c (.bool true)) (.t 17))) (.tk (jm 19 18) (.tk (qg 20 19 false (.fld 6 (.t 1))) (.tk (qg 21 19 false (.ld false 1 (.t 20))) (.tk (qg 23 19 false (.fld 7 (.t 1))) (.tk (qg 24 19 false (.ld false 1 (.t 23))) (.sq (jcg 22 19 false 153 [(.t 21)]) (.sq (jcg 25 19 false 153 [(.t 24)]) (.tk (qg 26 19 false (.bin .and (.t 22) (.t 25))) (.tk (qg 27 19 false (.bin .neq (.t 26) (.c (i64 0)))) (.tk (q 28 (.pick (.t 19) (.c (.bool true)) (.t 27))) .nil)))))))))))))))))))))))))))
 (.cond (.t 28) (jo [q 2 (.mv (.c (.bool false)))]
 .ret) .skip))
 (.seq (jo [jf 29 0 1, jl 30 29, jk 31 .eql 30 1]
 (.cond (.t 31) (jo [jf 32 1 1, jl 33 32, jk 34 .eql 33 0, jm 35 34, qg 36 35 true (.fld 2 (.t 1)), qg 37 35 true (.ld false 1 (.t 36)), qg 38 35 true (.bin .eql (.t 37) (.c (i64 0))), q 39 (.pick (.t 35) (.t 38) (.c (.bool false))), jm 40 39, qg 41 40 true (.fld 3 (.t 1)), qg 42 40 true (.ld false 1 (.t 41)), qg 43 40 true (.bin .eql (.t 42) (.c (i64 0))), q 44 (.pick (.t 40) (.t 43) (.c (.bool false))), jm 45 44, qg 46 45 true (.fld 4 (.t 1)), qg 47 45 true (.ld false 1 (.t 46)), qg 48 45 true (.bin .eql (.t 47) (.c (i64 0))), q 49 (.pick (.t 45) (.t 48) (.c (.bool false))), jm 50 49, qg 51 50 true (.fld 5 (.t 1)), qg 52 50 true (.ld false 1 (.t 51)), qg 53 50 true (.bin .eql (.t 52) (.c (str []))), q 54 (.pick (.t 50) (.t 53) (.c (.bool false))), jm 55 54, qg 56 55 true (.fld 7 (.t 1)), qg 57 55 true (.ld false 1 (.t 56)), qg 58 55 true (.len (.t 57)), qg 59 55 true (.bin .eql (.t 58) (.c (i64 0))), q 60 (.pick (.t 55) (.t 59) (.c (.bool false))), jm 2 60]
 .ret) .skip))
 (.seq (.dops true (.tk (jf 61 2 1) (.tk (jl 62 61) (.sq (jc 63 140 [(.t 62), (.c (i64 1)), (.c (i64 20))]) (.tk (jm 64 63) (.tk (qg 65 64 true (.fld 3 (.t 1))) (.tk (qg 66 64 true (.ld false 1 (.t 65))) (.sq (jcg 67 64 true 140 [(.t 66), (.c (i64 0)), (.c (i64 4))]) (.tk (q 68 (.pick (.t 64) (.t 67) (.c (.bool false)))) (.tk (jm 69 68) (.tk (qg 70 69 true (.fld 7 (.t 1))) (.tk (qg 71 69 true (.ld false 1 (.t 70))) (.tk (qg 73 69 true (.fld 2 (.t 1))) (.tk (qg 74 69 true (.ld false 1 (.t 73))) (.tk (qg 75 69 true (.fld 3 (.t 1))) (.tk (qg 76 69 true (.ld false 1 (.t 75))) (.tk (qg 77 69 true (.bin .add (.t 74) (.t 76))) (.sq (jcg 72 69 true 150 [(.t 71)]) (.tk (qg 78 69 true (.bin .eql (.t 72) (.t 77))) (.tk (q 79 (.pick (.t 69) (.t 78) (.c (.bool false)))) (.tk (jm 80 79) (.tk (qg 81 80 true (.fld 5 (.t 1))) (.tk (qg 82 80 true (.ld false 1 (.t 81))) (.tk (qg 83 80 true (.slen (.t 82))) (.tk (qg 84 80 true (.bin .eql (.t 83) (.c (i64 32)))) (.tk (q 85 (.pick (.t 80) (.t 84) (.c (.bool false)))) (.tk (jm 86 85) (.tk (qg 87 86 true (.fld 1 (.t 1))) (.tk (qg 88 86 true (.ld false 1 (.t 87))) (.sq (jcg 89 86 true 140 [(.t 88), (.c (i64 0)), (.c (i64 2))]) (.tk (q 90 (.pick (.t 86) (.t 89) (.c (.bool false)))) (.tk (jm 91 90) (.tk (qg 92 91 true (.fld 1 (.t 1))) (.tk (qg 93 91 true (.ld false 1 (.t 92))) (.tk (qg 94 91 true (.bin .eql (.t 93) (.c (i64 0)))) (.tk (qg 95 91 true (.mv (.t 94))) (.tk (qg 96 95 false (.fld 0 (.t 1))) (.tk (qg 97 95 false (.ld false 1 (.t 96))) (.tk (qg 98 95 false (.bin .eql (.t 97) (.c (i64 4)))) (.tk (qg 99 91 true (.pick (.t 95) (.c (.bool true)) (.t 98))) (.tk (q 100 (.pick (.t 91) (.t 99) (.c (.bool false)))) (.tk (jm 101 100) (.tk (qg 102 101 true (.fld 4 (.t 1))) (.tk (qg 103 101 true (.ld false 1 (.t 102))) (.sq (jcg 104 101 true 140 [(.t 103), (.c (i64 0)), (.c (i64 40))]) (.tk (q 105 (.pick (.t 101) (.t 104) (.c (.bool false)))) (.tk (jm 106 105) (.tk (qg 107 106 true (.fld 4 (.t 1))) (.tk (qg 108 106 true (.ld false 1 (.t 107))) (.tk (qg 109 106 true (.bin .eql (.t 108) (.c (i64 0)))) (.tk (qg 110 106 true (.mv (.t 109))) (.tk (qg 111 110 false (.fld 0 (.t 1))) (.tk (qg 112 110 false (.ld false 1 (.t 111))) (.tk (qg 113 110 false (.bin .eql (.t 112) (.c (i64 5)))) (.tk (qg 114 106 true (.pick (.t 110) (.c (.bool true)) (.t 113))) (.tk (q 115 (.pick (.t 106) (.t 114) (.c (.bool false)))) (.tk (jm 2 115) .nil)))))))))))))))))))))))))))))))))))))))))))))))))))))))))
 .ret))))
theorem w_impl_isState : Wk Tryz.prog 219 116 [.tmp 2] b_impl_isState := Wk.of mixedOrders Tryz.func219 (by kernel_rfl) (by kernel_rfl)

end Go.Proofs.YthjbhdmjfakfaaaGreatDoor
namespace Go.Proofs.YthjbhdmjfakfaaaGreatDoor
open Go.KH

structure UState where
 phase : Int
 tries : Int
 need : Int
 stash : Int
 done : Int
 digest : List UInt8
 held : List Int
 mine : List Int
deriving DecidableEq
abbrev UState.cells (s : UState) (vh vm : Value) : List Value := [i64 s.phase, i64 s.tries, i64 s.need, i64 s.stash, i64 s.done, str s.digest, vh, vm]
def UState.small (s : UState) : Prop := s.held.length ≤ 1048576 ∧ s.mine.length ≤ 1048576
def stateOk (s : UState) : Prop := (1 ≤ s.phase ∧ s.phase ≤ 5) ∧ listOk s.held ∧ listOk s.mine ∧ (∀ x ∈ s.mine, x ∉ s.held) ∧
 (if s.phase = 1 then s.tries = 0 ∧ s.need = 0 ∧ s.stash = 0 ∧ s.done = 0 ∧ s.digest = [] ∧ s.mine = []
 else (1 ≤ s.need ∧ s.need ≤ 20) ∧ (0 ≤ s.stash ∧ s.stash ≤ 4) ∧ (s.mine.length : Int) = s.need + s.stash ∧ s.digest.length = 32 ∧ (0 ≤ s.tries ∧ s.tries ≤ 2) ∧ (s.tries = 0 ∨ s.phase = 4) ∧ (0 ≤ s.done ∧ s.done ≤ 40) ∧ (s.done = 0 ∨ s.phase = 5))
instance (s : UState) : Decidable (stateOk s) := by unfold stateOk; infer_instance
theorem isState_pc {h : H} (s : UState) {vh vm : Value} (hh : Sl h vh 1 (ints s.held)) (hm : Sl h vm 1 (ints s.mine)) (hs : s.small) : PC Tryz.prog 219 [.agg (s.cells vh vm).toArray] h (.bool (decide (stateOk s))) := by
 obtain ⟨phase, tries, need, stash, done, digest, held, mine⟩ := s
 obtain ⟨hs1, hs2⟩ := hs
 simp only at hh hm hs1 hs2 ⊢
 have hlm : ∃ a c, vm = .slice a mine.length c := by obtain ⟨a, c, b, o, rfl, -⟩ := hm; exact ⟨a, c, by simp⟩
 obtain ⟨am, cm, rfl⟩ := hlm
 refine PC_of ?_
 refine w_impl_isState (by simp) ?_
 unfold b_impl_isState
 simp -implicitDefEqProofs only [go_sem]
 intro b1 hb_b1 n_b1
 simp -implicitDefEqProofs only [go_sem, hb_b1]
 refine (within_pc _ _ _ _).use ?_
 simp -implicitDefEqProofs only [go_sem, hb_b1]
 refine Br.of (fun h1 => ?_) (fun h1 => ?_)
 rotate_left
 ·simp -implicitDefEqProofs only [go_sem, h1, hb_b1]
  exact ⟨((Ext.refl _).set' n_b1 _), dec_f fun hp => h1 hp.1⟩
 simp -implicitDefEqProofs only [go_sem, h1, hb_b1]
 refine (isList_pc (hh.ext ((Ext.refl _).set' n_b1 _)) hs1).use ?_
 simp -implicitDefEqProofs only [go_sem, h1, hb_b1]
 refine Br.of (fun h2 => ?_) (fun h2 => ?_)
 rotate_left
 ·simp -implicitDefEqProofs only [go_sem, h2, hb_b1]
  exact ⟨((Ext.refl _).set' n_b1 _), dec_f fun hp => h2 hp.2.1⟩
 simp -implicitDefEqProofs only [go_sem, h2, hb_b1]
 refine (isList_pc (hm.ext ((Ext.refl _).set' n_b1 _)) hs2).use ?_
 simp -implicitDefEqProofs only [go_sem, h2, hb_b1]
 refine Br.of (fun h3 => ?_) (fun h3 => ?_)
 rotate_left
 ·simp -implicitDefEqProofs only [go_sem, h3, hb_b1]
  exact ⟨((Ext.refl _).set' n_b1 _), dec_f fun hp => h3 hp.2.2.1⟩
 simp -implicitDefEqProofs only [go_sem, h3, hb_b1]
 refine (bitsOf_pc (hh.ext ((Ext.refl _).set' n_b1 _)) h2).use ?_
 simp -implicitDefEqProofs only [go_sem, h3, hb_b1]
 refine (bitsOf_pc (hm.ext ((Ext.refl _).set' n_b1 _)) h3).use ?_
 have hd := bits_disjoint (fun x hx => (listOk_mem h2 x hx).1) (fun x hx => (listOk_mem h3 x hx).1)
 by_cases h4 : bitsN held &&& bitsN mine = 0
 rotate_left
 ·simp -implicitDefEqProofs only [go_sem, h3, and_i64 (Nat.lt_trans (bits24 h2) (by decide)) (Nat.lt_trans (bits24 h3) (by decide)), Int.natCast_eq_zero, h4, hb_b1]
  exact ⟨((Ext.refl _).set' n_b1 _), dec_f fun hp => h4 (hd.2 hp.2.2.2.1)⟩
 simp -implicitDefEqProofs only [go_sem, h3, and_i64 (Nat.lt_trans (bits24 h2) (by decide)) (Nat.lt_trans (bits24 h3) (by decide)), Int.natCast_eq_zero, h4, Int.ofNat_eq_zero, hb_b1]
 have hdj := hd.1 h4
 by_cases p1 : phase = 1
 ·subst p1
  simp -implicitDefEqProofs only [go_sem, List.length_map, hb_b1]
  repeat' first | (refine Br.of (fun hc => ?_) (fun hc => ?_) <;> simp -implicitDefEqProofs only [go_sem, List.length_map, *]) | (refine PC.use (within_pc _ _ _ _) ?_; simp -implicitDefEqProofs only [go_sem, List.length_map, *])
  all_goals first | exact ((Ext.refl _).set' n_b1 _) | exact ⟨((Ext.refl _).set' n_b1 _), by first | (simp_all [stateOk]; done) | (simp_all [stateOk]; intros; omega)⟩
 ·have hp := And.intro h1 (And.intro h2 (And.intro h3 hdj))
  simp -implicitDefEqProofs only [go_sem, p1, hb_b1]
  refine (within_pc _ _ _ _).use ?_
  simp -implicitDefEqProofs only [go_sem, p1, hb_b1]
  refine Br.of (fun h5 => ?_) (fun h5 => ?_)
  rotate_left
  ·simp -implicitDefEqProofs only [go_sem, h5, hb_b1]
   exact ⟨((Ext.refl _).set' n_b1 _), dec_f fun hq => h5 (by have := hq.2.2.2.2; rw [if_neg p1] at this; exact this.1)⟩
  simp -implicitDefEqProofs only [go_sem, h5, hb_b1]
  refine (within_pc _ _ _ _).use ?_
  simp -implicitDefEqProofs only [go_sem, h5, hb_b1]
  refine Br.of (fun h6 => ?_) (fun h6 => ?_)
  rotate_left
  ·simp -implicitDefEqProofs only [go_sem, h6, hb_b1]
   exact ⟨((Ext.refl _).set' n_b1 _), dec_f fun hq => h6 (by have := hq.2.2.2.2; rw [if_neg p1] at this; exact this.2.1)⟩
  simp -implicitDefEqProofs only [go_sem, h6, hb_b1]
  refine (sizeInts_pc (hm.ext ((Ext.refl _).set' n_b1 _))).use ?_
  simp -implicitDefEqProofs only [go_sem, h6, wrap_i64 (show -(9223372036854775808 : Int) ≤ (need + stash) by omega) (show (need + stash) < 9223372036854775808 by omega), hb_b1]
  have hq : stateOk ⟨phase, tries, need, stash, done, digest, held, mine⟩ ↔ (mine.length : Int) = need + stash ∧ digest.length = 32 ∧ (0 ≤ tries ∧ tries ≤ 2) ∧ (tries = 0 ∨ phase = 4) ∧ (0 ≤ done ∧ done ≤ 40) ∧ (done = 0 ∨ phase = 5) := by
   unfold stateOk
   simp only [if_neg p1]
   exact ⟨fun h => h.2.2.2.2.2.2, fun h => ⟨h1, h2, h3, hdj, h5, h6, h⟩⟩
  clear hp hdj hd h4
  repeat' first | (refine Br.of (fun hc => ?_) (fun hc => ?_) <;> simp -implicitDefEqProofs only [go_sem, *]) | (refine PC.use (within_pc _ _ _ _) ?_; simp -implicitDefEqProofs only [go_sem, *])
  all_goals first | exact ((Ext.refl _).set' n_b1 _) | exact ⟨((Ext.refl _).set' n_b1 _), by first | (simp_all; done) | (simp_all; intros; omega)⟩
end Go.Proofs.YthjbhdmjfakfaaaGreatDoor
namespace Go.Proofs.YthjbhdmjfakfaaaGreatDoor
open Go.KH

def StR (h : H) (cs : List Value) (s : UState) : Prop := ∃ vh vm, cs = s.cells vh vm ∧ Sl h vh 1 (ints s.held) ∧ Sl h vm 1 (ints s.mine)
def StF (h0 h : H) (cs : List Value) (s : UState) : Prop := ∃ vh vm, cs = s.cells vh vm ∧ Fre h0 h vh 1 (ints s.held) ∧ Fre h0 h vm 1 (ints s.mine) ∧ Dj vh vm
theorem StF.r {h0 h : H} {cs : List Value} {s : UState} (f : StF h0 h cs s) : StR h cs s := by obtain ⟨vh, vm, rfl, a, b, _⟩ := f; exact ⟨vh, vm, rfl, a.sl, b.sl⟩
theorem StR.ext {h h' : H} {cs : List Value} {s : UState} (f : StR h cs s) (e : Ext h h') : StR h' cs s := by obtain ⟨vh, vm, rfl, a, b⟩ := f; exact ⟨vh, vm, rfl, a.ext e, b.ext e⟩
theorem StF.ext {h0 h h' : H} {cs : List Value} {s : UState} (f : StF h0 h cs s) (e : Ext h h') : StF h0 h' cs s := by obtain ⟨vh, vm, rfl, a, b, d⟩ := f; exact ⟨vh, vm, rfl, a.ext e, b.ext e, d⟩
theorem StR.len {h : H} {cs : List Value} {s : UState} (r : StR h cs s) : cs.length = 8 := by obtain ⟨vh, vm, rfl, _, _⟩ := r; rfl
theorem StR.one {h : H} {cs : List Value} {s : UState} (r : StR h cs s) : cs.all Value.oneCell' = true := by
 obtain ⟨vh, vm, rfl, a, b⟩ := r
 simp [UState.cells, a.one, b.one, oneCell_int, oneCell_str]
theorem StR.known {h : H} {cs : List Value} {s : UState} (r : StR h cs s) : KnownL h cs := by
 obtain ⟨vh, vm, rfl, a, b⟩ := r
 intro v hv
 simp only [UState.cells, List.mem_cons, List.not_mem_nil, or_false] at hv
 rcases hv with rfl | rfl | rfl | rfl | rfl | rfl | rfl | rfl <;> first | exact a.known | exact b.known | exact Known.of_none rfl
theorem StF.new {h0 h : H} {cs : List Value} {s : UState} (r : StF h0 h cs s) : NewL h0 cs := by
 obtain ⟨vh, vm, rfl, a, b, _⟩ := r
 intro v hv
 simp only [UState.cells, List.mem_cons, List.not_mem_nil, or_false] at hv
 rcases hv with rfl | rfl | rfl | rfl | rfl | rfl | rfl | rfl <;> first | exact a.new | exact b.new | exact New.of_none rfl
theorem StR.keep {h h' : H} {cs ds : List Value} {s : UState} (r : StR h cs s) (k : Keep (blks ds) h h') (d : DjL cs ds) : StR h' cs s := by
 obtain ⟨vh, vm, rfl, a, b⟩ := r
 exact ⟨vh, vm, rfl, a.keep k (d.not (by simp)), b.keep k (d.not (by simp))⟩
theorem StF.keep {h0 h h' : H} {cs ds : List Value} {s : UState} (r : StF h0 h cs s) (k : Keep (blks ds) h h') (d : DjL cs ds) : StF h0 h' cs s := by
 obtain ⟨vh, vm, rfl, a, b, e⟩ := r
 exact ⟨vh, vm, rfl, a.keep k (d.not (by simp)), b.keep k (d.not (by simp)), e⟩
def StM (h : H) (cs : List Value) (s : UState) (k0 : Int) : Prop := ∃ vh vm, cs = s.cells vh vm ∧ Sl h vh 1 (mks gInt 1 k0 s.held.length) ∧ Sl h vm 1 (mks gInt 1 (k0 + s.held.length) s.mine.length)
theorem StM.ext {h h' : H} {cs : List Value} {s : UState} {k0 : Int} (r : StM h cs s k0) (e : Ext h h') : StM h' cs s k0 := by obtain ⟨vh, vm, rfl, a, b⟩ := r; exact ⟨vh, vm, rfl, a.ext e, b.ext e⟩
def UState.ok (s : UState) : Prop := in64 s.phase ∧ in64 s.tries ∧ in64 s.need ∧ in64 s.stash ∧ in64 s.done ∧ s.digest.length ≤ maxLen ∧ s.held.length ≤ maxLen ∧ s.mine.length ≤ maxLen
end Go.Proofs.YthjbhdmjfakfaaaGreatDoor
namespace Go.Proofs.YthjbhdmjfakfaaaGreatDoor
open Go.KH

theorem sl_ints {h : H} {b z c : Nat} {l : List Int} (hb : h.get b = some ⟨l.map i64, z⟩) (hc : l.length ≤ c) : Sl h (sl b 0 l.length c) 1 (ints l) :=
 ⟨_, _, b, 0, by rw [List.length_map], by rw [List.length_map]; exact hc, by rw [List.length_map]; rfl, fun i r hr => by
  simp only [List.getElem?_map, Option.map_eq_some_iff] at hr
  obtain ⟨n, hn, rfl⟩ := hr
  have hi := (List.getElem?_eq_some_iff.1 hn).1
  rw [ldc_get hb, Nat.zero_add, Nat.mul_one]
  simp only [List.length_map]
  rw [if_pos (by omega), List.drop_eq_getElem_cons (by simpa using hi)]
  obtain ⟨h1, h2⟩ := List.getElem?_eq_some_iff.1 hn
  simp [h2]⟩
def stateB (s : UState) : List UInt8 := putNum s.phase ++ putNum s.tries ++ putNum s.need ++ putNum s.stash ++ putNum s.done ++ putNum (bitsN s.held) ++ putNum (bitsN s.mine) ++ putText s.digest
theorem stateOk_digest {s : UState} (h : stateOk s) : s.digest.length ≤ 32 := by
 have := h.2.2.2.2
 split at this
 ·rw [this.2.2.2.2.1]; simp
 ·omega
theorem stateOk_in {s : UState} (h : stateOk s) : in64 s.phase ∧ in64 s.tries ∧ in64 s.need ∧ in64 s.stash ∧ in64 s.done ∧ in64 (bitsN s.held) ∧ in64 (bitsN s.mine) := by
 have h1 := bits24 h.2.1
 have h2 := bits24 h.2.2.1
 have h3 := h.1
 have := h.2.2.2.2
 unfold in64
 split at this <;> omega
theorem stateB_le {s : UState} (h : stateOk s) : (stateB s).length ≤ 112 := by
 obtain ⟨i1, i2, i3, i4, i5, i6, i7⟩ := stateOk_in h
 have hd := stateOk_digest h
 have l1 := putNum_le i1
 have l2 := putNum_le i2
 have l3 := putNum_le i3
 have l4 := putNum_le i4
 have l5 := putNum_le i5
 have l6 := putNum_le i6
 have l7 := putNum_le i7
 have l8 := putText_le (t := s.digest) (by omega)
 unfold stateB
 simp only [List.length_append]; omega
def b_impl_stateBytes : C := (jo [⟨(some 1), none, .box (.t 0)⟩, q 2 (.mv (.c (str [])))]
 (.seq (.dops true (.tk (jf 3 0 1) (.tk (jl 4 3) (.tk (jf 5 1 1) (.tk (jl 6 5) (.tk (jf 7 2 1) (.tk (jl 8 7) (.tk (jf 9 3 1) (.tk (jl 10 9) (.tk (jf 11 4 1) (.tk (jl 12 11) (.tk (jf 13 6 1) (.tk (jl 14 13) (.tk (jf 16 7 1) (.tk (jl 17 16) (.tk (jf 21 5 1) (.tk (jl 22 21) (.sq (jc 15 153 [(.t 14)]) (.sq (jc 18 153 [(.t 17)]) (.sq (⟨(some 19), none, .bsl 7 [(i64 0), (i64 0), (i64 0), (i64 0), (i64 0), (i64 0), (i64 0)] [(0, 1, (.t 4)), (1, 1, (.t 6)), (2, 1, (.t 8)), (3, 1, (.t 10)), (4, 1, (.t 12)), (5, 1, (.t 15)), (6, 1, (.t 18))]⟩) (.sq (jc 20 181 [(.t 19)]) (.sq (jc 23 95 [(.t 22)]) (.tk (jb 24 .add 20 23) (.tk (jm 2 24) .nil))))))))))))))))))))))))
 .ret))
theorem w_impl_stateBytes : Wk Tryz.prog 128 25 [.tmp 2] b_impl_stateBytes := Wk.of mixedOrders Tryz.func128 (by kernel_rfl) (by kernel_rfl)

theorem stateBytes_pc {h : H} (s : UState) {vh vm : Value} (hh : Sl h vh 1 (ints s.held)) (hm : Sl h vm 1 (ints s.mine)) (hok : stateOk s) : PC Tryz.prog 128 [.agg (s.cells vh vm).toArray] h (str (stateB s)) := by
 obtain ⟨i1, i2, i3, i4, i5, i6, i7⟩ := stateOk_in hok
 have hd := stateOk_digest hok
 have hB := stateB_le hok
 refine PC_of ?_
 refine w_impl_stateBytes (by simp) ?_
 unfold b_impl_stateBytes
 simp -implicitDefEqProofs only [go_sem]
 intro b1 hb_b1 n_b1
 simp -implicitDefEqProofs only [go_sem, hb_b1]
 refine (bitsOf_pc (hh.ext ((Ext.refl _).set' n_b1 _)) hok.2.1).use ?_
 simp -implicitDefEqProofs only [go_sem, hb_b1]
 refine (bitsOf_pc (hm.ext ((Ext.refl _).set' n_b1 _)) hok.2.2.1).use ?_
 simp -implicitDefEqProofs only [go_sem, hb_b1]
 intro b2 hb_b2 m0_b2
 obtain ⟨z_b2_b1, y_b2_b1, n_b2⟩ := fne m0_b2
 simp only [H.set_base] at hb_b2
 refine ⟨Sub.set (Sub.refl _) (by rw [H.set_get_ne _ _ _ _ (of_eq_false z_b2_b1)]; exact n_b2) _, ?_⟩
 simp -implicitDefEqProofs only [go_sem, hb_b1, hb_b2, z_b2_b1, y_b2_b1]
 refine (putNums_pc (l := [s.phase, s.tries, s.need, s.stash, s.done, (bitsN s.held : Int), (bitsN s.mine : Int)]) (sl_ints (H.set_get_same _ _ _) (Nat.le_refl _)) (by simp) (by intro x hx; simp at hx; rcases hx with rfl | rfl | rfl | rfl | rfl | rfl | rfl <;> assumption)).use ?_
 refine ⟨Sub.set (Sub.refl _) (by rw [H.set_get_ne _ _ _ _ (of_eq_false z_b2_b1)]; exact n_b2) _, ?_⟩
 simp -implicitDefEqProofs only [go_sem, hb_b1, hb_b2, z_b2_b1, y_b2_b1]
 refine (putText_pc _ _ (by omega)).use ?_
 refine ⟨Sub.set (Sub.refl _) (by rw [H.set_get_ne _ _ _ _ (of_eq_false z_b2_b1)]; exact n_b2) _, ?_⟩
 simp -implicitDefEqProofs only [go_sem, hb_b1, hb_b2, z_b2_b1, y_b2_b1]
 have e : [s.phase, s.tries, s.need, s.stash, s.done, (bitsN s.held : Int), (bitsN s.mine : Int)].flatMap putNum ++ putText s.digest = stateB s := by simp [stateB]
 refine Req.of (by rw [← e] at hB; simp only [List.length_append] at hB; omega) ?_
 rw [e]
 simp -implicitDefEqProofs only [go_sem, hb_b1, hb_b2, z_b2_b1, y_b2_b1]
 exact (((Ext.refl _).set' n_b1 _).set' n_b2 _)
def b_spec_l12Bytes : C := (jo [⟨(some 1), none, .box (.t 0)⟩, q 2 (.mv (.c (str [])))]
 (.seq (.dops true (.tk (jf 3 0 1) (.tk (jl 4 3) (.tk (jf 6 1 1) (.tk (jl 7 6) (.tk (jf 10 2 1) (.tk (jl 11 10) (.tk (jf 14 3 1) (.tk (jl 15 14) (.tk (jf 18 4 1) (.tk (jl 19 18) (.tk (jf 22 6 1) (.tk (jl 23 22) (.tk (jf 27 7 1) (.tk (jl 28 27) (.tk (jf 32 5 1) (.tk (jl 33 32) (.sq (jc 5 55 [(.t 4)]) (.sq (jc 8 55 [(.t 7)]) (.tk (jb 9 .add 5 8) (.sq (jc 12 55 [(.t 11)]) (.tk (jb 13 .add 9 12) (.sq (jc 16 55 [(.t 15)]) (.tk (jb 17 .add 13 16) (.sq (jc 20 55 [(.t 19)]) (.tk (jb 21 .add 17 20) (.sq (jc 24 135 [(.t 23)]) (.sq (jc 25 55 [(.t 24)]) (.tk (jb 26 .add 21 25) (.sq (jc 29 135 [(.t 28)]) (.sq (jc 30 55 [(.t 29)]) (.tk (jb 31 .add 26 30) (.sq (jc 34 56 [(.t 33)]) (.tk (jb 35 .add 31 34) (.tk (jm 2 35) .nil)))))))))))))))))))))))))))))))))))
 .ret))
theorem w_spec_l12Bytes : Wk Tryz.prog 70 36 [.tmp 2] b_spec_l12Bytes := Wk.of mixedOrders Tryz.func70 (by kernel_rfl) (by kernel_rfl)

theorem l12Bytes_pc {h : H} (s : UState) {vh vm : Value} (hh : Sl h vh 1 (ints s.held)) (hm : Sl h vm 1 (ints s.mine)) (hok : stateOk s) : PC Tryz.prog 70 [.agg (s.cells vh vm).toArray] h (str (stateB s)) := by
 obtain ⟨i1, i2, i3, i4, i5, i6, i7⟩ := stateOk_in hok
 have hd := stateOk_digest hok
 have hB := stateB_le hok
 unfold stateB at hB
 simp only [List.length_append] at hB
 refine PC_of ?_
 refine w_spec_l12Bytes (by simp) ?_
 unfold b_spec_l12Bytes
 simp -implicitDefEqProofs only [go_sem]
 intro b1 hb_b1 n_b1
 simp -implicitDefEqProofs only [go_sem, hb_b1]
 refine (specPutNum_pc _ _ i1).use ?_
 simp -implicitDefEqProofs only [go_sem, hb_b1]
 refine (specPutNum_pc _ _ i2).use ?_
 simp -implicitDefEqProofs only [go_sem, hb_b1]
 refine Req.of (by omega) ?_
 simp -implicitDefEqProofs only [go_sem, hb_b1]
 refine (specPutNum_pc _ _ i3).use ?_
 simp -implicitDefEqProofs only [go_sem, hb_b1]
 refine Req.of (by simp only [List.length_append]; omega) ?_
 simp -implicitDefEqProofs only [go_sem, hb_b1]
 refine (specPutNum_pc _ _ i4).use ?_
 simp -implicitDefEqProofs only [go_sem, hb_b1]
 refine Req.of (by simp only [List.length_append]; omega) ?_
 simp -implicitDefEqProofs only [go_sem, hb_b1]
 refine (specPutNum_pc _ _ i5).use ?_
 simp -implicitDefEqProofs only [go_sem, hb_b1]
 refine Req.of (by simp only [List.length_append]; omega) ?_
 simp -implicitDefEqProofs only [go_sem, hb_b1]
 refine (specBitsOf_pc (hh.ext ((Ext.refl _).set' n_b1 _)) hok.2.1).use ?_
 simp -implicitDefEqProofs only [go_sem, hb_b1]
 refine (specPutNum_pc _ _ i6).use ?_
 simp -implicitDefEqProofs only [go_sem, hb_b1]
 refine Req.of (by simp only [List.length_append]; omega) ?_
 simp -implicitDefEqProofs only [go_sem, hb_b1]
 refine (specBitsOf_pc (hm.ext ((Ext.refl _).set' n_b1 _)) hok.2.2.1).use ?_
 simp -implicitDefEqProofs only [go_sem, hb_b1]
 refine (specPutNum_pc _ _ i7).use ?_
 simp -implicitDefEqProofs only [go_sem, hb_b1]
 refine Req.of (by simp only [List.length_append]; omega) ?_
 simp -implicitDefEqProofs only [go_sem, hb_b1]
 refine (specPutText_pc _ _ (by omega)).use ?_
 simp -implicitDefEqProofs only [go_sem, hb_b1]
 refine Req.of (by simp only [List.length_append]; omega) ?_
 simp -implicitDefEqProofs only [go_sem, hb_b1]
 exact ⟨((Ext.refl _).set' n_b1 _), rfl⟩
end Go.Proofs.YthjbhdmjfakfaaaGreatDoor