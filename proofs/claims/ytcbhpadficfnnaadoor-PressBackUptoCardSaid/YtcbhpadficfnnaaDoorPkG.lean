/- sub_nat: what the typed functions compute, and the laws. -/
import Derived.Test.YtcbhpadficfnnaaDoorDPkZ
import Derived.Test.YtcbhpadficfnnaaDoorBas
namespace Go.Proofs.YtcbhpadficfnnaaDoor.Pm
open Go.Proofs.YtcbhpadficfnnaaDoor.Args
open Go.ChangeShapes Go.WideShapes Go.ChangeAt Go.RowKit
set_option linter.unusedVariables false
set_option linter.unusedSimpArgs false
set_option maxRecDepth 100000
theorem sub_nat {α : Type} (xs : List α) (a b : Nat) (h1 : a ≤ b) (h2 : b ≤ xs.length) : sub? xs (a : Int) (b : Int) = some ((xs.take b).drop a) := by
  unfold sub?
  rw [if_pos (by omega)]; simp
end Go.Proofs.YtcbhpadficfnnaaDoor.Pm
