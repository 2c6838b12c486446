/- A helper of this seat's claims (contracts of the functions): what it shows is shown for every input that its statements name, on no other condition. -/
import Derived.Test.YthheclnjaemjnaaGreatCG
set_option linter.unusedVariables false
set_option linter.unusedSimpArgs false
set_option maxRecDepth 100000
namespace Go.Proofs.YthheclnjaemjnaaGreat
open Go.KH

/-! ## Marks of machines -/
def flN (f : UFlash) : Int := f.sec.length + (2 * f.dirty.length : Nat)
def FlM (h : H) (f : UFlash) (k : Int) (vs vd : Value) : Prop := Sl h vs 1 (mks gStr 1 k f.sec.length) ∧ Sl h vd 2 (mks gDirty 2 (k + f.sec.length) f.dirty.length)
theorem FlM.ext {h h' : H} {f : UFlash} {k : Int} {vs vd : Value} (r : FlM h f k vs vd) (e : Ext h h') : FlM h' f k vs vd := ⟨r.1.ext e, r.2.ext e⟩
theorem flN_le {f : UFlash} (hs : f.fin1) : 0 ≤ flN f ∧ flN f ≤ 4194304 := by
  unfold UFlash.fin1 at hs
  unfold flN; omega
end Go.Proofs.YthheclnjaemjnaaGreat
