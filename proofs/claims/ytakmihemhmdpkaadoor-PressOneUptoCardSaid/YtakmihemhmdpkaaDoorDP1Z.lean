/- The laws out of their typed functions. Printed by dec.py. -/
import Derived.Test.YtakmihemhmdpkaaDoorPb
import Derived.Test.YtakmihemhmdpkaaDoorDP1F
import Derived.Test.YtakmihemhmdpkaaDoorDP1L
namespace Go.Proofs.YtakmihemhmdpkaaDoor.Pm
set_option maxRecDepth 1000000
set_option maxHeartbeats 20000000
set_option linter.unusedVariables false
open Go.Proofs.YtakmihemhmdpkaaDoor.Args
open Go.ChangeShapes Go.WideShapes Go.ChangeAt Go.RowKit
/-- PressOne out of its typed function. -/
theorem PressOne_calls (m : Option Nat) (H : ∀ (a1 : Int) (a2 : Int) (a3 : Int), (Lit.int .i64 a1).wf = true → (Lit.int .i64 a2).wf = true → (Lit.int .i64 a3).wf = true → f8 a1 a2 a3 = some true)
    (v0 : Value) (v1 : Value) (v2 : Value) (w : World) (h0 : Arg m Go.Proofs.Tryd.prog w 3 v0) (h1 : Arg m Go.Proofs.Tryd.prog w 3 v1) (h2 : Arg m Go.Proofs.Tryd.prog w 3 v2) (hm : ∃ m, w.cell? ⟨2, 0, none⟩ = some (.int .i64 m)) (hu : Lib.Utf8Tabs 0 1 w) : Calls Go.Proofs.Tryd.prog 8 #[v0, v1, v2] w fun e w' => e = .returned (.bool true) ∧ Below w.heap.size w w' := by
  obtain ⟨x0, y0, r0⟩ := (opn_int (P := Go.Proofs.Tryd.prog) (t := 3) (k := .i64) rfl rfl).op m w _ h0.1
  obtain ⟨n0, rfl, _⟩ := h0.int rfl
  obtain ⟨u0, _, e0, r0, q0⟩ := r0
  cases q0; cases e0
  obtain ⟨x1, y1, r1⟩ := (opn_int (P := Go.Proofs.Tryd.prog) (t := 3) (k := .i64) rfl rfl).op m w _ h1.1
  obtain ⟨n1, rfl, _⟩ := h1.int rfl
  obtain ⟨u1, _, e1, r1, q1⟩ := r1
  cases q1; cases e1
  obtain ⟨x2, y2, r2⟩ := (opn_int (P := Go.Proofs.Tryd.prog) (t := 3) (k := .i64) rfl rfl).op m w _ h2.1
  obtain ⟨n2, rfl, _⟩ := h2.int rfl
  obtain ⟨u2, _, e2, r2, q2⟩ := r2
  cases q2; cases e2
  exact law_calls (baseL_snd _ _ (fun _ _ _ h => by cases h) hm hu) codes_ok (f8_ok 8 (Nat.le_refl _) x0 x1 x2 true (H x0 x1 x2 y0 y1 y2)) ⟨_, _, rfl, r0, ⟨_, _, rfl, r1, ⟨_, _, rfl, r2, rfl⟩⟩⟩
end Go.Proofs.YtakmihemhmdpkaaDoor.Pm
