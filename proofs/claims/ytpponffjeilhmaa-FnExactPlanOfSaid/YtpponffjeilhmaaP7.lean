/- A helper of this seat's claims (plain laws): what it shows is shown for every input that its statements name, on no other condition. -/
import Derived.Test.YtpponffjeilhmaaP4
import Derived.Test.YtpponffjeilhmaaK22
set_option linter.unusedVariables false
set_option linter.unusedSimpArgs false
namespace Go.KH

/-! ## What steps make -/
def isW (s : UStep) : Bool := !decide (s.kind = 5)
def zero8 : List UInt8 := List.replicate 8 0
def xorB (a b : List UInt8) : List UInt8 := List.zipWith (fun x y => x ^^^ y) a b
def makeB (s : UStep) (src : List UInt8) : List UInt8 := if s.kind = 1 then zero8 else if s.kind = 2 then s.data else if s.kind = 3 then src else xorB src s.data
def at8 (im : List (List UInt8)) (i : Int) : List UInt8 := im[i.toNat]?.getD []
def putB (im out : List (List UInt8)) (s : UStep) : List (List UInt8) := out.set s.dst.toNat (makeB s (at8 im s.src))
def applyB (im : List (List UInt8)) (l : List UStep) : List (List UInt8) := (l.filter isW).foldl (putB im) im
theorem fold_putB_len (im : List (List UInt8)) : ∀ (w : List UStep) (out : List (List UInt8)), (w.foldl (putB im) out).length = out.length
  | [], out => rfl
  | s :: w, out => by rw [List.foldl_cons, fold_putB_len im w]; simp [putB]
theorem applyB_len (im : List (List UInt8)) (l : List UStep) : (applyB im l).length = im.length := fold_putB_len ..
theorem applyB_all (im : List (List UInt8)) (l : List UStep) : applyB im l = l.foldl (fun out s => if isW s then putB im out s else out) im := by unfold applyB; rw [List.foldl_filter]
theorem fold_at {im : List (List UInt8)} {b : Nat} : ∀ (w : List UStep) (out : List (List UInt8)), w.Pairwise (fun x y => x.dst ≠ y.dst) → (∀ s ∈ w, 0 ≤ s.dst) → b < out.length →
    (∀ s ∈ w, s.dst = b → (w.foldl (putB im) out)[b]? = some (makeB s (at8 im s.src))) ∧ ((∀ s ∈ w, s.dst ≠ b) → (w.foldl (putB im) out)[b]? = out[b]?)
  | [], out, _, _, _ => ⟨fun s hs => (by cases hs), fun _ => rfl⟩
  | s :: w, out, hp, h0, hb => by
    obtain ⟨hp1, hp2⟩ := List.pairwise_cons.1 hp
    obtain ⟨i1, i2⟩ := fold_at (im := im) w (putB im out s) hp2 (fun x hx => h0 x (List.mem_cons_of_mem _ hx)) (by simpa [putB] using hb)
    have hs0 := h0 s (List.mem_cons_self ..)
    constructor
    · intro x hx hd
      rw [List.foldl_cons]
      rcases List.mem_cons.1 hx with rfl | hx
      · rw [i2 (fun y hy e => hp1 y hy (by omega))]
        unfold putB
        rw [show x.dst.toNat = b by omega, List.getElem?_set_self hb]
      · exact i1 x hx hd
    · intro hn
      rw [List.foldl_cons, i2 (fun y hy => hn y (List.mem_cons_of_mem _ hy))]
      have := hn s (List.mem_cons_self ..)
      unfold putB
      rw [List.getElem?_set_ne (by omega)]
theorem writes_apart {l : List UStep} (h : ¬ twice l) : (l.filter isW).Pairwise (fun x y => x.dst ≠ y.dst) := by
  rw [List.pairwise_filter, List.pairwise_iff_getElem]
  intro i j hi hj hij w1 w2 e
  refine h ⟨j, i, hj, hij, ?_, ?_, e.symm⟩
  · simpa [isW] using w2
  · simpa [isW] using w1
theorem applyB_touch {im : List (List UInt8)} {l : List UStep} {b : Nat} (h : ¬ twice l) (h0 : ∀ s ∈ l, 0 ≤ s.dst) (hb : b < im.length) :
    (∀ s ∈ l, s.kind ≠ 5 → s.dst = b → (applyB im l)[b]? = some (makeB s (at8 im s.src))) ∧ ((∀ s ∈ l, s.kind ≠ 5 → s.dst ≠ b) → (applyB im l)[b]? = im[b]?) := by
  obtain ⟨i1, i2⟩ := fold_at (im := im) (b := b) (l.filter isW) im (writes_apart h) (fun s hs => h0 s ((List.mem_filter.1 hs).1)) hb
  exact ⟨fun s hs h5 hd => i1 s (List.mem_filter.2 ⟨hs, by simp [isW, h5]⟩) hd, fun hn => i2 fun s hs => hn s ((List.mem_filter.1 hs).1) (by have := (List.mem_filter.1 hs).2; simpa [isW] using this)⟩
theorem xorB_len {a b : List UInt8} (h : a.length = b.length) : (xorB a b).length = a.length := by simp [xorB, h]
/-- A byte xor. -/
theorem wrap_u8 {n : Int} (h : 0 ≤ n) (h2 : n < 256) : IntKind.u8.wrap n = n := by
  unfold IntKind.wrap
  simp only [IntKind.bits, IntKind.signed]
  first | omega | (simp; omega)
theorem xor_u8 (x y : UInt8) : obin .xor (.int .u8 (x.toNat : Int)) (.int .u8 (y.toNat : Int)) = some (.int .u8 ((x ^^^ y).toNat : Int)) := by
  rw [bi_xor]
  congr 2
  have e1 : ∀ n : UInt8, BitVec.ofInt IntKind.u8.bits (n.toNat : Int) = n.toBitVec := fun n => by
    show BitVec.ofInt 8 (n.toNat : Int) = n.toBitVec
    rw [BitVec.ofInt_natCast]
    simp
  rw [e1, e1]
  show IntKind.u8.wrap (((x.toBitVec ^^^ y.toBitVec).toNat : Nat) : Int) = _
  rw [show ((x ^^^ y).toNat) = (x.toBitVec ^^^ y.toBitVec).toNat from rfl]
  have := (x.toBitVec ^^^ y.toBitVec).isLt
  exact wrap_u8 (by omega) (by omega)
def xorP (a b : List UInt8) (k : Nat) : List UInt8 := (xorB a b).take k ++ a.drop k
theorem xorP_0 (a b : List UInt8) : xorP a b 0 = a := by simp [xorP]
theorem xorP_8 {a b : List UInt8} {n : Nat} (ha : a.length = n) (hb : b.length = n) : xorP a b n = xorB a b := by
  unfold xorP
  rw [List.take_of_length_le (by rw [xorB_len (by omega)]; omega), List.drop_of_length_le (by omega), List.append_nil]
theorem xorP_len {a b : List UInt8} {n k : Nat} (ha : a.length = n) (hb : b.length = n) (hk : k ≤ n) : (xorP a b k).length = n := by
  unfold xorP
  rw [List.length_append, List.length_take, List.length_drop, xorB_len (by omega)]; omega
theorem xorP_get {a b : List UInt8} {n k : Nat} (ha : a.length = n) (hb : b.length = n) (hk : k < n) : (xorP a b k)[k]? = some (a[k]'(by omega)) := by
  unfold xorP
  rw [List.getElem?_append_right (by rw [List.length_take]; omega), List.length_take, xorB_len (by omega), List.getElem?_drop]
  rw [show k + (k - min k a.length) = k by omega]
  exact List.getElem?_eq_getElem _
theorem xorP_succ {a b : List UInt8} {n k : Nat} (ha : a.length = n) (hb : b.length = n) (hk : k < n) : (xorP a b k).set k (a[k]'(by omega) ^^^ b[k]'(by omega)) = xorP a b (k + 1) := by
  apply List.ext_getElem?
  intro i
  have hx := xorB_len (a := a) (b := b) (by omega)
  by_cases hi : i = k
  · subst hi
    rw [List.getElem?_set_self (by rw [xorP_len ha hb (by omega)]; exact hk)]
    unfold xorP
    rw [List.getElem?_append_left (by rw [List.length_take]; omega), List.getElem?_take, if_pos (by omega)]
    simp [xorB, List.getElem?_zipWith, hk, ha, hb]
  · rw [List.getElem?_set_ne (by omega)]
    unfold xorP
    by_cases hlt : i < k
    · rw [List.getElem?_append_left (by rw [List.length_take]; omega), List.getElem?_append_left (by rw [List.length_take]; omega), List.getElem?_take, List.getElem?_take, if_pos hlt, if_pos (by omega)]
    · rw [List.getElem?_append_right (by rw [List.length_take]; omega), List.getElem?_append_right (by rw [List.length_take]; omega), List.getElem?_drop, List.getElem?_drop, List.length_take, List.length_take]
      congr 1
      omega
theorem splice_set {α : Type} (f : α → Value) (l : List α) (k : Nat) (x : α) (hk : k < l.length) : splice (l.map f) k [f x] = (l.set k x).map f := by
  unfold splice
  rw [List.set_eq_take_append_cons_drop, if_pos hk]
  simp
end Go.KH
