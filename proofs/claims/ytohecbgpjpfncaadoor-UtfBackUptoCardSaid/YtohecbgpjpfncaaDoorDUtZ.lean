/- The laws out of their typed functions. Printed by dec.py. -/
import Derived.Test.YtohecbgpjpfncaaDoorPb
import Derived.Test.YtohecbgpjpfncaaDoorDUtE
import Derived.Test.YtohecbgpjpfncaaDoorDUtL
namespace Go.Proofs.YtohecbgpjpfncaaDoor.Pm
set_option maxRecDepth 1000000
set_option maxHeartbeats 20000000
set_option linter.unusedVariables false
open Go.Proofs.YtohecbgpjpfncaaDoor.Args
open Go.ChangeShapes Go.WideShapes Go.ChangeAt Go.RowKit
/-- UtfLeft out of its typed function. -/
theorem UtfLeft_calls (m : Option Nat) (H : ∀ (a1 : List UInt8) (a2 : List UInt8), (a1.length ≤ maxLen ∧ FitN m a1.length 1) → (a2.length ≤ maxLen ∧ FitN m a2.length 1) → f3 a1 a2 = some true)
    (v0 : Value) (v1 : Value) (w : World) (h0 : Arg m Go.Proofs.Tryd.prog w 9 v0) (h1 : Arg m Go.Proofs.Tryd.prog w 9 v1) (hu : Lib.Utf8Tabs 0 1 w) : Calls Go.Proofs.Tryd.prog 3 #[v0, v1] w fun e w' => e = .returned (.bool true) ∧ Below w.heap.size w w' := by
  obtain ⟨x0, y0, r0⟩ := (opn_str (P := Go.Proofs.Tryd.prog) (t := 9) rfl rfl).op m w _ h0.1
  obtain ⟨n0, rfl, _⟩ := h0.string rfl
  obtain ⟨u0, _, e0, r0, q0⟩ := r0
  cases q0; cases e0
  obtain ⟨x1, y1, r1⟩ := (opn_str (P := Go.Proofs.Tryd.prog) (t := 9) rfl rfl).op m w _ h1.1
  obtain ⟨n1, rfl, _⟩ := h1.string rfl
  obtain ⟨u1, _, e1, r1, q1⟩ := r1
  cases q1; cases e1
  exact law_calls (baseL_snd _ _ (fun _ _ _ h => by cases h) hu) codes_ok (f3_ok 6 (Nat.le_refl _) x0 x1 true (H x0 x1 y0 y1)) ⟨_, _, rfl, r0, ⟨_, _, rfl, r1, rfl⟩⟩
/-- UtfCuts out of its typed function. -/
theorem UtfCuts_calls (m : Option Nat) (H : ∀ (a1 : List UInt8) (a2 : List UInt8) (a3 : List UInt8), (a1.length ≤ maxLen ∧ FitN m a1.length 1) → (a2.length ≤ maxLen ∧ FitN m a2.length 1) → (a3.length ≤ maxLen ∧ FitN m a3.length 1) → f4 a1 a2 a3 = some true)
    (v0 : Value) (v1 : Value) (v2 : Value) (w : World) (h0 : Arg m Go.Proofs.Tryd.prog w 9 v0) (h1 : Arg m Go.Proofs.Tryd.prog w 9 v1) (h2 : Arg m Go.Proofs.Tryd.prog w 9 v2) (hu : Lib.Utf8Tabs 0 1 w) : Calls Go.Proofs.Tryd.prog 4 #[v0, v1, v2] w fun e w' => e = .returned (.bool true) ∧ Below w.heap.size w w' := by
  obtain ⟨x0, y0, r0⟩ := (opn_str (P := Go.Proofs.Tryd.prog) (t := 9) rfl rfl).op m w _ h0.1
  obtain ⟨n0, rfl, _⟩ := h0.string rfl
  obtain ⟨u0, _, e0, r0, q0⟩ := r0
  cases q0; cases e0
  obtain ⟨x1, y1, r1⟩ := (opn_str (P := Go.Proofs.Tryd.prog) (t := 9) rfl rfl).op m w _ h1.1
  obtain ⟨n1, rfl, _⟩ := h1.string rfl
  obtain ⟨u1, _, e1, r1, q1⟩ := r1
  cases q1; cases e1
  obtain ⟨x2, y2, r2⟩ := (opn_str (P := Go.Proofs.Tryd.prog) (t := 9) rfl rfl).op m w _ h2.1
  obtain ⟨n2, rfl, _⟩ := h2.string rfl
  obtain ⟨u2, _, e2, r2, q2⟩ := r2
  cases q2; cases e2
  exact law_calls (baseL_snd _ _ (fun _ _ _ h => by cases h) hu) codes_ok (f4_ok 6 (Nat.le_refl _) x0 x1 x2 true (H x0 x1 x2 y0 y1 y2)) ⟨_, _, rfl, r0, ⟨_, _, rfl, r1, ⟨_, _, rfl, r2, rfl⟩⟩⟩
/-- UtfBack out of its typed function. -/
theorem UtfBack_calls (m : Option Nat) (H : ∀ (a1 : List Int) (a2 : Int), (FitN m a1.length (Go.Proofs.Tryd.prog.bytesOf 3) ∧ ∀ x ∈ a1, (Lit.int .i64 x).wf = true) → (Lit.int .i64 a2).wf = true → f5 a1 a2 = some true)
    (v0 : Value) (v1 : Value) (w : World) (h0 : Arg m Go.Proofs.Tryd.prog w 22 v0) (h1 : Arg m Go.Proofs.Tryd.prog w 3 v1) (hu : Lib.Utf8Tabs 0 1 w) : Calls Go.Proofs.Tryd.prog 5 #[v0, v1] w fun e w' => e = .returned (.bool true) ∧ Below w.heap.size w w' := by
  obtain ⟨v0', rfl, g0, _⟩ := h0.slice rfl
  obtain ⟨x0, y0, r0⟩ := (opn_sl (P := Go.Proofs.Tryd.prog) (t := 22) (e := 3) rfl rfl (opn_int (P := Go.Proofs.Tryd.prog) (t := 3) (k := .i64) rfl rfl) (Nat.le_of_ble_eq_true rfl)).op m w _ g0
  obtain ⟨u0, _, e0, r0, q0⟩ := r0
  cases q0; cases e0
  obtain ⟨x1, y1, r1⟩ := (opn_int (P := Go.Proofs.Tryd.prog) (t := 3) (k := .i64) rfl rfl).op m w _ h1.1
  obtain ⟨n1, rfl, _⟩ := h1.int rfl
  obtain ⟨u1, _, e1, r1, q1⟩ := r1
  cases q1; cases e1
  exact law_calls (baseL_snd _ _ (fun _ _ _ h => by cases h) hu) codes_ok (f5_ok 6 (Nat.le_refl _) x0 x1 true (H x0 x1 y0 y1)) ⟨_, _, rfl, r0, ⟨_, _, rfl, r1, rfl⟩⟩
end Go.Proofs.YtohecbgpjpfncaaDoor.Pm
