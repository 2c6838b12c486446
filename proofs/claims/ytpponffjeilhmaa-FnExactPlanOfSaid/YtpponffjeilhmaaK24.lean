/- A helper of this seat's claims (the logic of the walks): what it shows is shown for every input that its statements name, on no other condition. -/
import Derived.Test.YtpponffjeilhmaaK22
set_option linter.unusedVariables false
set_option linter.unusedSimpArgs false
namespace Go.KH
open Go.RowKit

/-! ## Values of many cells, by what they are -/
/-- What a cell is: a value that holds no address, or a slice of rows. -/
inductive Sp where
  | v (x : Value)
  | s (w : Nat) (rows : List (List Value))
def Sp.r (h : H) : Sp → Value → Prop
  | .v x, c => c = x ∧ blk x = none ∧ x.oneCell' = true
  | .s w rows, c => Sl h c w rows
def Sp.f (h0 h : H) : Sp → Value → Prop
  | .v x, c => c = x ∧ blk x = none ∧ x.oneCell' = true
  | .s w rows, c => Fre h0 h c w rows
/-- The cells are what they should be. -/
def RepR (h : H) : List Sp → List Value → Prop
  | [], [] => True
  | s :: ss, c :: cs => s.r h c ∧ RepR h ss cs
  | _, _ => False
/-- The same, in the call's own memory, each slice apart. -/
def RepF (h0 h : H) : List Sp → List Value → Prop
  | [], [] => True
  | s :: ss, c :: cs => s.f h0 h c ∧ (∀ d ∈ cs, Dj c d) ∧ RepF h0 h ss cs
  | _, _ => False
theorem RepR_nil {h : H} {cs : List Value} : RepR h [] cs ↔ cs = [] := by cases cs <;> simp [RepR]
theorem RepR_cons {h : H} {s : Sp} {ss : List Sp} {cs : List Value} : RepR h (s :: ss) cs ↔ ∃ c cs', cs = c :: cs' ∧ s.r h c ∧ RepR h ss cs' := by
  cases cs with
  | nil => simp [RepR]
  | cons c cs => exact ⟨fun h => ⟨c, cs, rfl, h.1, h.2⟩, fun ⟨c', cs', e, h1, h2⟩ => by simp only [List.cons.injEq] at e; obtain ⟨rfl, rfl⟩ := e; exact ⟨h1, h2⟩⟩
theorem RepF_nil {h0 h : H} {cs : List Value} : RepF h0 h [] cs ↔ cs = [] := by cases cs <;> simp [RepF]
theorem RepF_cons {h0 h : H} {s : Sp} {ss : List Sp} {cs : List Value} : RepF h0 h (s :: ss) cs ↔ ∃ c cs', cs = c :: cs' ∧ s.f h0 h c ∧ (∀ d ∈ cs', Dj c d) ∧ RepF h0 h ss cs' := by
  cases cs with
  | nil => simp [RepF]
  | cons c cs => exact ⟨fun h => ⟨c, cs, rfl, h.1, h.2.1, h.2.2⟩, fun ⟨c', cs', e, h1, h2, h3⟩ => by simp only [List.cons.injEq] at e; obtain ⟨rfl, rfl⟩ := e; exact ⟨h1, h2, h3⟩⟩
theorem RepR_v {h : H} {x : Value} {ss : List Sp} {cs : List Value} (h1 : blk x = none) (h2 : x.oneCell' = true) : RepR h (.v x :: ss) cs ↔ ∃ cs', cs = x :: cs' ∧ RepR h ss cs' := by
  rw [RepR_cons]
  constructor
  · rintro ⟨c, cs', rfl, ⟨rfl, _, _⟩, r⟩; exact ⟨cs', rfl, r⟩
  · rintro ⟨cs', rfl, r⟩; exact ⟨_, _, rfl, ⟨rfl, h1, h2⟩, r⟩
theorem RepR_i {h : H} {k : IntKind} {n : Int} {ss : List Sp} {cs : List Value} : RepR h (.v (.int k n) :: ss) cs ↔ ∃ cs', cs = .int k n :: cs' ∧ RepR h ss cs' := RepR_v rfl rfl
theorem RepR_str {h : H} {l : List UInt8} {ss : List Sp} {cs : List Value} : RepR h (.v (str l) :: ss) cs ↔ ∃ cs', cs = str l :: cs' ∧ RepR h ss cs' := RepR_v rfl rfl
theorem RepR_b {h : H} {b : Bool} {ss : List Sp} {cs : List Value} : RepR h (.v (.bool b) :: ss) cs ↔ ∃ cs', cs = .bool b :: cs' ∧ RepR h ss cs' := RepR_v rfl rfl
theorem RepR_s {h : H} {w : Nat} {rows : List (List Value)} {ss : List Sp} {cs : List Value} : RepR h (.s w rows :: ss) cs ↔ ∃ v cs', cs = v :: cs' ∧ Sl h v w rows ∧ RepR h ss cs' := RepR_cons
theorem Dj.nb {u v : Value} (h : blk v = none) : Dj u v := fun b _ e => by rw [h] at e; cases e
theorem Dj.bn {u v : Value} (h : blk u = none) : Dj u v := fun b e _ => by rw [h] at e; cases e
theorem RepF_v {h0 h : H} {x : Value} {ss : List Sp} {cs : List Value} (h1 : blk x = none) (h2 : x.oneCell' = true) : RepF h0 h (.v x :: ss) cs ↔ ∃ cs', cs = x :: cs' ∧ RepF h0 h ss cs' := by
  rw [RepF_cons]
  constructor
  · rintro ⟨c, cs', rfl, ⟨rfl, _, _⟩, _, r⟩; exact ⟨cs', rfl, r⟩
  · rintro ⟨cs', rfl, r⟩; exact ⟨_, _, rfl, ⟨rfl, h1, h2⟩, fun d _ => Dj.bn h1, r⟩
theorem RepF_i {h0 h : H} {k : IntKind} {n : Int} {ss : List Sp} {cs : List Value} : RepF h0 h (.v (.int k n) :: ss) cs ↔ ∃ cs', cs = .int k n :: cs' ∧ RepF h0 h ss cs' := RepF_v rfl rfl
theorem RepF_str {h0 h : H} {l : List UInt8} {ss : List Sp} {cs : List Value} : RepF h0 h (.v (str l) :: ss) cs ↔ ∃ cs', cs = str l :: cs' ∧ RepF h0 h ss cs' := RepF_v rfl rfl
theorem RepF_b {h0 h : H} {b : Bool} {ss : List Sp} {cs : List Value} : RepF h0 h (.v (.bool b) :: ss) cs ↔ ∃ cs', cs = .bool b :: cs' ∧ RepF h0 h ss cs' := RepF_v rfl rfl
theorem RepF_s {h0 h : H} {w : Nat} {rows : List (List Value)} {ss : List Sp} {cs : List Value} : RepF h0 h (.s w rows :: ss) cs ↔ ∃ v cs', cs = v :: cs' ∧ Fre h0 h v w rows ∧ (∀ d ∈ cs', Dj v d) ∧ RepF h0 h ss cs' := RepF_cons
theorem Sp.f.r {h0 h : H} : ∀ {s : Sp} {c : Value}, s.f h0 h c → s.r h c
  | .v _, _, k => k
  | .s _ _, _, k => Fre.sl k
theorem Sp.r.ext {h h' : H} (e : Ext h h') : ∀ {s : Sp} {c : Value}, s.r h c → s.r h' c
  | .v _, _, k => k
  | .s _ _, _, k => Sl.ext k e
theorem Sp.f.ext {h0 h h' : H} (e : Ext h h') : ∀ {s : Sp} {c : Value}, s.f h0 h c → s.f h0 h' c
  | .v _, _, k => k
  | .s _ _, _, k => Fre.ext k e
theorem Sp.f.back {h0 h1 h : H} (e : Ext h0 h1) : ∀ {s : Sp} {c : Value}, s.f h1 h c → s.f h0 h c
  | .v _, _, k => k
  | .s _ _, _, k => Fre.back k e
theorem Sp.r.one {h : H} : ∀ {s : Sp} {c : Value}, s.r h c → c.oneCell' = true
  | .v _, _, k => by rw [k.1]; exact k.2.2
  | .s _ _, _, k => Sl.one k
theorem Sp.r.known {h : H} : ∀ {s : Sp} {c : Value}, s.r h c → Known h c
  | .v _, _, k => Known.of_none (by rw [k.1]; exact k.2.1)
  | .s _ _, _, k => Sl.known k
theorem Sp.f.new {h0 h : H} : ∀ {s : Sp} {c : Value}, s.f h0 h c → New h0 c
  | .v _, _, k => New.of_none (by rw [k.1]; exact k.2.1)
  | .s _ _, _, k => Fre.new k
theorem Sp.r.keep {S : Nat → Prop} {h h' : H} (k : Keep S h h') : ∀ {s : Sp} {c : Value}, (∀ b, blk c = some b → ¬ S b) → s.r h c → s.r h' c
  | .v _, _, _, q => q
  | .s _ _, _, n, q => Sl.keep q k n
theorem Sp.f.keep {S : Nat → Prop} {h0 h h' : H} (k : Keep S h h') : ∀ {s : Sp} {c : Value}, (∀ b, blk c = some b → ¬ S b) → s.f h0 h c → s.f h0 h' c
  | .v _, _, _, q => q
  | .s _ _, _, n, q => Fre.keep q k n
theorem Sp.f.set {h0 h : H} {b : Nat} {x : Ob} (hb : h0.get b = some x) (ob : Ob) : ∀ {s : Sp} {c : Value}, s.f h0 h c → s.f h0 (h.set b ob) c
  | .v _, _, k => k
  | .s _ _, _, k => Fre.set k hb ob
theorem RepF.r {h0 h : H} : ∀ {ss : List Sp} {cs : List Value}, RepF h0 h ss cs → RepR h ss cs
  | [], [], _ => trivial
  | _ :: _, _ :: _, k => ⟨k.1.r, RepF.r k.2.2⟩
  | [], _ :: _, k => k.elim
  | _ :: _, [], k => k.elim
theorem RepR.ext {h h' : H} : ∀ {ss : List Sp} {cs : List Value}, RepR h ss cs → Ext h h' → RepR h' ss cs
  | [], [], _, _ => trivial
  | _ :: _, _ :: _, k, e => ⟨k.1.ext e, RepR.ext k.2 e⟩
  | [], _ :: _, k, _ => k.elim
  | _ :: _, [], k, _ => k.elim
theorem RepF.ext {h0 h h' : H} : ∀ {ss : List Sp} {cs : List Value}, RepF h0 h ss cs → Ext h h' → RepF h0 h' ss cs
  | [], [], _, _ => trivial
  | _ :: _, _ :: _, k, e => ⟨k.1.ext e, k.2.1, RepF.ext k.2.2 e⟩
  | [], _ :: _, k, _ => k.elim
  | _ :: _, [], k, _ => k.elim
theorem RepF.back {h0 h1 h : H} : ∀ {ss : List Sp} {cs : List Value}, RepF h1 h ss cs → Ext h0 h1 → RepF h0 h ss cs
  | [], [], _, _ => trivial
  | _ :: _, _ :: _, k, e => ⟨k.1.back e, k.2.1, RepF.back k.2.2 e⟩
  | [], _ :: _, k, _ => k.elim
  | _ :: _, [], k, _ => k.elim
theorem RepF.set {h0 h : H} {b : Nat} {x : Ob} : ∀ {ss : List Sp} {cs : List Value}, RepF h0 h ss cs → h0.get b = some x → (ob : Ob) → RepF h0 (h.set b ob) ss cs
  | [], [], _, _, _ => trivial
  | _ :: _, _ :: _, k, hb, ob => ⟨k.1.set hb ob, k.2.1, RepF.set k.2.2 hb ob⟩
  | [], _ :: _, k, _, _ => k.elim
  | _ :: _, [], k, _, _ => k.elim
theorem RepR.len {h : H} : ∀ {ss : List Sp} {cs : List Value}, RepR h ss cs → cs.length = ss.length
  | [], [], _ => rfl
  | _ :: _, _ :: _, k => by simp [RepR.len k.2]
  | [], _ :: _, k => k.elim
  | _ :: _, [], k => k.elim
theorem RepR.one {h : H} : ∀ {ss : List Sp} {cs : List Value}, RepR h ss cs → cs.all Value.oneCell' = true
  | [], [], _ => rfl
  | _ :: _, _ :: _, k => by rw [List.all_cons, k.1.one, RepR.one k.2]; rfl
  | [], _ :: _, k => k.elim
  | _ :: _, [], k => k.elim
theorem RepR.known {h : H} : ∀ {ss : List Sp} {cs : List Value}, RepR h ss cs → KnownL h cs
  | [], [], _ => fun v hv => by cases hv
  | _ :: _, c :: cs, k => fun v hv => by
    rcases List.mem_cons.1 hv with rfl | hv
    · exact k.1.known
    · exact RepR.known k.2 v hv
  | [], _ :: _, k => k.elim
  | _ :: _, [], k => k.elim
theorem RepF.new {h0 h : H} : ∀ {ss : List Sp} {cs : List Value}, RepF h0 h ss cs → NewL h0 cs
  | [], [], _ => fun v hv => by cases hv
  | _ :: _, c :: cs, k => fun v hv => by
    rcases List.mem_cons.1 hv with rfl | hv
    · exact k.1.new
    · exact RepF.new k.2.2 v hv
  | [], _ :: _, k => k.elim
  | _ :: _, [], k => k.elim
theorem RepR.keep {h h' : H} {ds : List Value} : ∀ {ss : List Sp} {cs : List Value}, RepR h ss cs → Keep (blks ds) h h' → DjL cs ds → RepR h' ss cs
  | [], [], _, _, _ => trivial
  | _ :: _, c :: cs, k, e, d => ⟨k.1.keep e (d.not (List.mem_cons_self ..)), RepR.keep k.2 e fun u hu => d u (List.mem_cons_of_mem _ hu)⟩
  | [], _ :: _, k, _, _ => k.elim
  | _ :: _, [], k, _, _ => k.elim
theorem RepF.keep {h0 h h' : H} {ds : List Value} : ∀ {ss : List Sp} {cs : List Value}, RepF h0 h ss cs → Keep (blks ds) h h' → DjL cs ds → RepF h0 h' ss cs
  | [], [], _, _, _ => trivial
  | _ :: _, c :: cs, k, e, d => ⟨k.1.keep e (d.not (List.mem_cons_self ..)), k.2.1, RepF.keep k.2.2 e fun u hu => d u (List.mem_cons_of_mem _ hu)⟩
  | [], _ :: _, k, _, _ => k.elim
  | _ :: _, [], k, _, _ => k.elim
theorem rep1 {h0 h : H} {v : Value} {w : Nat} {rows : List (List Value)} (f : Fre h0 h v w rows) : RepF h0 h [.s w rows] [v] := ⟨f, fun _ hd => (by cases hd), trivial⟩
theorem keep1 {h h' : H} {v : Value} (k : Keep (fun b => blk v = some b) h h') : Keep (blks [v]) h h' := k.mono fun b hb => ⟨v, by simp, hb⟩
end Go.KH
