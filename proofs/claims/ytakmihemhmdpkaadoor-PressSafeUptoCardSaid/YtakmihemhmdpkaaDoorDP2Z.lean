/- The laws out of their typed functions. Printed by dec.py. -/
import Derived.Test.YtakmihemhmdpkaaDoorPb
import Derived.Test.YtakmihemhmdpkaaDoorDP2F
import Derived.Test.YtakmihemhmdpkaaDoorDP2L
namespace Go.Proofs.YtakmihemhmdpkaaDoor.Pm
set_option maxRecDepth 1000000
set_option maxHeartbeats 20000000
set_option linter.unusedVariables false
open Go.Proofs.YtakmihemhmdpkaaDoor.Args
open Go.ChangeShapes Go.WideShapes Go.ChangeAt Go.RowKit
/-- PressSafe out of its typed function. -/
theorem PressSafe_calls (m : Option Nat) (H : ∀ (a1 : List Int) (a2 : Int), (FitN m a1.length (Go.Proofs.Tryd.prog.bytesOf 3) ∧ ∀ x ∈ a1, (Lit.int .i64 x).wf = true) → (Lit.int .i64 a2).wf = true → f9 a1 a2 = some true)
    (v0 : Value) (v1 : Value) (w : World) (h0 : Arg m Go.Proofs.Tryd.prog w 22 v0) (h1 : Arg m Go.Proofs.Tryd.prog w 3 v1) (hm : ∃ m, w.cell? ⟨2, 0, none⟩ = some (.int .i64 m)) (hu : Lib.Utf8Tabs 0 1 w) : Calls Go.Proofs.Tryd.prog 9 #[v0, v1] w fun e w' => e = .returned (.bool true) ∧ Below w.heap.size w w' := by
  obtain ⟨v0', rfl, g0, _⟩ := h0.slice rfl
  obtain ⟨x0, y0, r0⟩ := (opn_sl (P := Go.Proofs.Tryd.prog) (t := 22) (e := 3) rfl rfl (opn_int (P := Go.Proofs.Tryd.prog) (t := 3) (k := .i64) rfl rfl) (Nat.le_of_ble_eq_true rfl)).op m w _ g0
  obtain ⟨u0, _, e0, r0, q0⟩ := r0
  cases q0; cases e0
  obtain ⟨x1, y1, r1⟩ := (opn_int (P := Go.Proofs.Tryd.prog) (t := 3) (k := .i64) rfl rfl).op m w _ h1.1
  obtain ⟨n1, rfl, _⟩ := h1.int rfl
  obtain ⟨u1, _, e1, r1, q1⟩ := r1
  cases q1; cases e1
  exact law_calls (baseL_snd _ _ (fun _ _ _ h => by cases h) hm hu) codes_ok (f9_ok 8 (Nat.le_refl _) x0 x1 true (H x0 x1 y0 y1)) ⟨_, _, rfl, r0, ⟨_, _, rfl, r1, rfl⟩⟩
end Go.Proofs.YtakmihemhmdpkaaDoor.Pm
