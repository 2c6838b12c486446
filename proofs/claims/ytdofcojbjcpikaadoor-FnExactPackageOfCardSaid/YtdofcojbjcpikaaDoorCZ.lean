/- A helper of this seat's claims (contracts of the functions): what it shows is shown for every input that its statements name, on no other condition. -/
import Derived.Test.YtdofcojbjcpikaaDoorK30
import Derived.Test.YtdofcojbjcpikaaDoorSH
import Derived.Test.YtdofcojbjcpikaaDoorCXa
import Derived.Test.YtdofcojbjcpikaaDoorC10s
set_option linter.unusedVariables false
set_option linter.unusedSimpArgs false
set_option maxRecDepth 100000
namespace Go.Proofs.YtdofcojbjcpikaaDoor
open Go.KH Go.RowKit

/-! ## strings.Join, Repeat, Count -/
theorem join_nosep : ∀ l : List (List UInt8), Lib.join l [] = l.flatten
  | [] => rfl
  | x :: l => by
    rw [Lib.join_cons, List.flatten_cons]
    congr 1
    unfold Lib.joinTail
    simp
theorem join_pc {h : H} {v : Value} {l : List (List UInt8)} (hv : Sl h v 1 (strs l)) (hb : l.flatten.length ≤ 1099511627776) (hl : l.length ≤ 1099511627776) : PC Tryd.prog 50 [v, str []] h (str l.flatten) := by
  refine PC_calls Tryd.func50 (by kernel_rfl) (by kernel_rfl) fun w0 w r => ?_
  rcases hv.texts with ⟨a, c, rfl, rfl⟩ | ⟨b, o, c, rfl, hc, hpos, hcells⟩
  · exact (Tryd.strings_Join_none a c ⟨#[]⟩ w).mono fun e w' ⟨he, hw⟩ => ⟨he, below_same hw⟩
  · obtain ⟨q1, q2⟩ := hcells r
    have hmap : (l.map fun x => (⟨x.toArray⟩ : ByteArray)).map (·.data.toList) = l := by rw [List.map_map]; simp [Function.comp_def]
    have hlen : (l.map fun x => (⟨x.toArray⟩ : ByteArray)).length = l.length := by simp
    have := Tryd.strings_Join b o c (l.map fun x => (⟨x.toArray⟩ : ByteArray)) ⟨#[]⟩ w q2 q1 (by rw [hlen]; omega) (by rw [hlen]; exact hc) (by
      rw [hmap, show (ByteArray.mk #[]).data.toList = [] from rfl, join_nosep]; omega)
    rw [hlen, hmap, show (ByteArray.mk #[]).data.toList = [] from rfl, join_nosep] at this
    exact this
theorem repeatL_rep (b : UInt8) : ∀ n, Lib.repeatL [b] n = List.replicate n b
  | 0 => rfl
  | n + 1 => by rw [Lib.repeatL, repeatL_rep b n, List.replicate_succ]; rfl
theorem repeat_pc (h : H) (b : UInt8) (n : Nat) (hn : n ≤ 1000000) : PC Tryd.prog 69 [str [b], i64 n] h (str (List.replicate n b)) := by
  refine PC_calls Tryd.func69 (by kernel_rfl) (by kernel_rfl) fun w0 w r => ?_
  have := Tryd.strings_Repeat ⟨#[b]⟩ n w (by omega) (by show 1 * n ≤ _; omega)
  refine this.mono fun e w' ⟨he, hw⟩ => ⟨?_, hw⟩
  rw [he, show (ByteArray.mk #[b]).data.toList = [b] from rfl, repeatL_rep]
  rfl
theorem count_pc (h : H) (t : List UInt8) (c : UInt8) : PC Tryd.prog 54 [str t, str [c]] h (i64 (t.count c)) := by
  refine PC_calls Tryd.func54 (by kernel_rfl) (by kernel_rfl) fun w0 w r => ?_
  have := Tryd.strings_Count_one ⟨t.toArray⟩ c w
  refine this.mono fun e w' ⟨he, hw⟩ => ⟨?_, below_same hw⟩
  rw [he]
  rfl
end Go.Proofs.YtdofcojbjcpikaaDoor
