/- The laws out of their typed functions. Printed by dec.py. -/
import Derived.Test.YtohecbgpjpfncaaDoorPb
import Derived.Test.YtohecbgpjpfncaaDoorDUaD
import Derived.Test.YtohecbgpjpfncaaDoorDUaL
namespace Go.Proofs.YtohecbgpjpfncaaDoor.Pm
set_option maxRecDepth 1000000
set_option maxHeartbeats 20000000
set_option linter.unusedVariables false
open Go.Proofs.YtohecbgpjpfncaaDoor.Args
open Go.ChangeShapes Go.WideShapes Go.ChangeAt Go.RowKit
/-- UtfAscii out of its typed function. -/
theorem UtfAscii_calls (m : Option Nat) (H : ∀ (a1 : List UInt8) (a2 : List UInt8), (a1.length ≤ maxLen ∧ FitN m a1.length 1) → (a2.length ≤ maxLen ∧ FitN m a2.length 1) → f6 a1 a2 = some true)
    (v0 : Value) (v1 : Value) (w : World) (h0 : Arg m Go.Proofs.Tryd.prog w 9 v0) (h1 : Arg m Go.Proofs.Tryd.prog w 9 v1) (hu : Lib.Utf8Tabs 0 1 w) : Calls Go.Proofs.Tryd.prog 6 #[v0, v1] w fun e w' => e = .returned (.bool true) ∧ Below w.heap.size w w' := by
  obtain ⟨x0, y0, r0⟩ := (opn_str (P := Go.Proofs.Tryd.prog) (t := 9) rfl rfl).op m w _ h0.1
  obtain ⟨n0, rfl, _⟩ := h0.string rfl
  obtain ⟨u0, _, e0, r0, q0⟩ := r0
  cases q0; cases e0
  obtain ⟨x1, y1, r1⟩ := (opn_str (P := Go.Proofs.Tryd.prog) (t := 9) rfl rfl).op m w _ h1.1
  obtain ⟨n1, rfl, _⟩ := h1.string rfl
  obtain ⟨u1, _, e1, r1, q1⟩ := r1
  cases q1; cases e1
  exact law_calls (baseL_snd _ _ (fun _ _ _ h => by cases h) hu) codes_ok (f6_ok 6 (Nat.le_refl _) x0 x1 true (H x0 x1 y0 y1)) ⟨_, _, rfl, r0, ⟨_, _, rfl, r1, rfl⟩⟩
end Go.Proofs.YtohecbgpjpfncaaDoor.Pm
