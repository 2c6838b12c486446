/- A helper of this seat's claims (the logic of the walks): what it shows is shown for every input that its statements name, on no other condition. -/
import Derived.Test.YthheclnjaemjnaaKD
set_option linter.unusedVariables false
set_option linter.unusedSimpArgs false
namespace Go.KH

/-! ## A row of calls, with one or two boxes made at any time between -/
def row0 (fin : DP) : List GO → DP
  | [] => fin
  | c :: cs => .sq c (row0 fin cs)
def row1 (fin : DP) (a : GO) : List GO → DP
  | [] => .sq a fin
  | c :: cs => .alt c (row1 fin a cs) a (row0 fin (c :: cs))
def row2 (fin : DP) (a b : GO) : List GO → DP
  | [] => .alt a (row1 fin b []) b (row1 fin a [])
  | c :: cs => .alt3 c (row2 fin a b cs) a (row1 fin b (c :: cs)) b (row1 fin a (c :: cs))
section
variable {P : Program} {hS : H} {K : Fr → H → Prop}
theorem row0_ok {fin : DP} {I : Nat → Fr → H → Prop} {L : List GO} (hc : ∀ i c, L[i]? = some c → ∀ f h, I i f h → gow P c f h fun f' h' => Sub hS h' ∧ I (i + 1) f' h') (hf : ∀ f h, I L.length f h → dopw P hS fin f h K) :
    ∀ (cs : List GO) (i : Nat), L.drop i = cs → i ≤ L.length → ∀ f h, I i f h → dopw P hS (row0 fin cs) f h K
  | [], i, e, hi, f, h, hI => by
    have : L.length ≤ i := by simpa using e
    obtain rfl : i = L.length := by omega
    exact hf f h hI
  | c :: cs, i, e, hi, f, h, hI => by
    have hlt : i < L.length := by
      rcases Nat.lt_or_ge i L.length with h1 | h1
      · exact h1
      · rw [List.drop_of_length_le h1] at e; cases e
    rw [List.drop_eq_getElem_cons hlt] at e
    simp only [List.cons.injEq] at e
    exact gow_mono (fun f' h' q => ⟨q.1, row0_ok hc hf cs (i + 1) e.2 hlt f' h' q.2⟩) (hc i c (by rw [List.getElem?_eq_getElem hlt, e.1]) f h hI)
theorem row1_ok {fin : DP} {a : GO} {I J : Nat → Fr → H → Prop} {L : List GO} (hc : ∀ i c, L[i]? = some c → ∀ f h, I i f h → gow P c f h fun f' h' => Sub hS h' ∧ I (i + 1) f' h') (hf : ∀ f h, I L.length f h → dopw P hS fin f h K)
    (hj : ∀ i c, L[i]? = some c → ∀ f h, J i f h → gow P c f h fun f' h' => Sub hS h' ∧ J (i + 1) f' h') (ha : ∀ i f h, J i f h → gow P a f h fun f' h' => Sub hS h' ∧ I i f' h') :
    ∀ (cs : List GO) (i : Nat), L.drop i = cs → i ≤ L.length → ∀ f h, J i f h → dopw P hS (row1 fin a cs) f h K
  | [], i, e, hi, f, h, hI => by
    have : L.length ≤ i := by simpa using e
    obtain rfl : i = L.length := by omega
    exact gow_mono (fun f' h' q => ⟨q.1, hf f' h' q.2⟩) (ha _ f h hI)
  | c :: cs, i, e, hi, f, h, hI => by
    have e0 := e
    have hlt : i < L.length := by
      rcases Nat.lt_or_ge i L.length with h1 | h1
      · exact h1
      · rw [List.drop_of_length_le h1] at e; cases e
    rw [List.drop_eq_getElem_cons hlt] at e
    simp only [List.cons.injEq] at e
    exact ⟨gow_mono (fun f' h' q => ⟨q.1, row1_ok hc hf hj ha cs (i + 1) e.2 hlt f' h' q.2⟩) (hj i c (by rw [List.getElem?_eq_getElem hlt, e.1]) f h hI),
      gow_mono (fun f' h' q => ⟨q.1, row0_ok hc hf (c :: cs) i e0 hi f' h' q.2⟩) (ha i f h hI)⟩
theorem row2_ok {fin : DP} {a b : GO} {I Ja Jb M : Nat → Fr → H → Prop} {L : List GO} (hc : ∀ i c, L[i]? = some c → ∀ f h, I i f h → gow P c f h fun f' h' => Sub hS h' ∧ I (i + 1) f' h') (hf : ∀ f h, I L.length f h → dopw P hS fin f h K)
    (hja : ∀ i c, L[i]? = some c → ∀ f h, Ja i f h → gow P c f h fun f' h' => Sub hS h' ∧ Ja (i + 1) f' h') (hjb : ∀ i c, L[i]? = some c → ∀ f h, Jb i f h → gow P c f h fun f' h' => Sub hS h' ∧ Jb (i + 1) f' h')
    (hm : ∀ i c, L[i]? = some c → ∀ f h, M i f h → gow P c f h fun f' h' => Sub hS h' ∧ M (i + 1) f' h')
    (haJ : ∀ i f h, Ja i f h → gow P a f h fun f' h' => Sub hS h' ∧ I i f' h') (hbJ : ∀ i f h, Jb i f h → gow P b f h fun f' h' => Sub hS h' ∧ I i f' h')
    (ha : ∀ i f h, M i f h → gow P a f h fun f' h' => Sub hS h' ∧ Jb i f' h') (hb : ∀ i f h, M i f h → gow P b f h fun f' h' => Sub hS h' ∧ Ja i f' h') :
    ∀ (cs : List GO) (i : Nat), L.drop i = cs → i ≤ L.length → ∀ f h, M i f h → dopw P hS (row2 fin a b cs) f h K
  | [], i, e, hi, f, h, hI => 
    ⟨gow_mono (fun f' h' q => ⟨q.1, row1_ok hc hf hjb hbJ [] i e hi f' h' q.2⟩) (ha i f h hI), gow_mono (fun f' h' q => ⟨q.1, row1_ok hc hf hja haJ [] i e hi f' h' q.2⟩) (hb i f h hI)⟩
  | c :: cs, i, e, hi, f, h, hI => by
    have e0 := e
    have hlt : i < L.length := by
      rcases Nat.lt_or_ge i L.length with h1 | h1
      · exact h1
      · rw [List.drop_of_length_le h1] at e; cases e
    rw [List.drop_eq_getElem_cons hlt] at e
    simp only [List.cons.injEq] at e
    exact ⟨gow_mono (fun f' h' q => ⟨q.1, row2_ok hc hf hja hjb hm haJ hbJ ha hb cs (i + 1) e.2 hlt f' h' q.2⟩) (hm i c (by rw [List.getElem?_eq_getElem hlt, e.1]) f h hI),
      gow_mono (fun f' h' q => ⟨q.1, row1_ok hc hf hjb hbJ (c :: cs) i e0 hi f' h' q.2⟩) (ha i f h hI), gow_mono (fun f' h' q => ⟨q.1, row1_ok hc hf hja haJ (c :: cs) i e0 hi f' h' q.2⟩) (hb i f h hI)⟩
end
end Go.KH
