/-
  The noise of a node: the next state of a shift register.
-/
import Derived.Test.YtonkdndpfnapjaaGreatScal
namespace Go.Proofs.YtonkdndpfnapjaaGreat
open Go.ChangeShapes Go.WideShapes Go.ChangeAt Go.RowKit
set_option linter.unusedVariables false

def noiseP (s : Int) : Int := if s % 2 = 1 then smp (bits .xor .i64 (s % 4294967296 / 2) 2734686208) else smp (s % 4294967296 / 2)
theorem unsigned_any (n : Int) (w : World) :
    Calls Tryz.prog 130 #[.int .i64 n] w fun e w' => e = .returned (.int .i64 (n % 4294967296)) ∧ w = w' := by
  go_enter Tryz.func130, Tryz.ntmps130
  go_wp2
  go_ret
  exact ⟨rfl, rfl⟩
end Go.Proofs.YtonkdndpfnapjaaGreat
