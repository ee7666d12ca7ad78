/- The laws out of their typed functions. Printed by dec.py. -/
import Derived.Test.YtobkkblijfhpoaaGreatDoorPb
import Derived.Test.YtobkkblijfhpoaaGreatDoorDTpI
import Derived.Test.YtobkkblijfhpoaaGreatDoorDTpL
namespace Go.Proofs.YtobkkblijfhpoaaGreatDoor.Pm
set_option maxRecDepth 1000000
set_option maxHeartbeats 20000000
set_option linter.unusedVariables false
set_option linter.unusedSimpArgs false
open Go.Proofs.YtobkkblijfhpoaaGreatDoor.Args
open Go.ChangeShapes Go.WideShapes Go.ChangeAt Go.RowKit
theorem TopPast_calls (m : Option Nat) (H : ∀ (a1 : List (List UInt8)), (FitN m a1.length (Go.Proofs.Tryz.prog.bytesOf 9) ∧ ∀ x ∈ a1, (x.length ≤ maxLen ∧ FitN m x.length 1)) → f5 a1 = some true)
  (v0 : Value) (w : World) (h0 : Arg m Go.Proofs.Tryz.prog w 48 v0) (hm : ∃ m, w.cell? ⟨0, 0, none⟩ = some (.int .i64 m)) : Calls Go.Proofs.Tryz.prog 5 #[v0] w fun e w' => e = .returned (.bool true) ∧ Below w.heap.size w w' := by
 obtain ⟨v0', rfl, g0, _⟩ := h0.slice rfl
 obtain ⟨x0, y0, r0⟩ := (opn_sl (P := Go.Proofs.Tryz.prog) (t := 48) (e := 9) rfl rfl (opn_str (P := Go.Proofs.Tryz.prog) (t := 9) rfl rfl) (Nat.le_of_ble_eq_true rfl)).op m w _ g0
 obtain ⟨u0, _, e0, r0, q0⟩ := r0
 cases q0; cases e0
 exact law_calls (baseL_snd _ _ (fun _ _ _ h => by cases h) hm) codes_ok (f5_ok 16 (Nat.le_refl _) x0 true (H x0 y0)) ⟨_, _, rfl, r0, rfl⟩
end Go.Proofs.YtobkkblijfhpoaaGreatDoor.Pm
