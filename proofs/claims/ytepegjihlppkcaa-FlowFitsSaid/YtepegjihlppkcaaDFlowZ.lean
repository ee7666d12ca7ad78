/- The laws out of their typed functions. Printed by dec.py. -/
import Derived.Test.YtepegjihlppkcaaPb
import Derived.Test.YtepegjihlppkcaaDFlowE
namespace Go.Proofs.Ytepegjihlppkcaa.Pm
set_option maxRecDepth 1000000
set_option maxHeartbeats 20000000
set_option linter.unusedVariables false
open Go.Proofs.Ytepegjihlppkcaa.Args
open Go.ChangeShapes Go.WideShapes Go.ChangeAt Go.RowKit
/-- FlowFits out of its typed function. -/
theorem FlowFits_calls (m : Option Nat) (H : ∀ (a1 : List (List Int)) (a2 : Int), (FitN m a1.length (Go.Proofs.Try.prog.bytesOf 22) ∧ ∀ x ∈ a1, (FitN m x.length (Go.Proofs.Try.prog.bytesOf 3) ∧ ∀ y ∈ x, (Lit.int .i64 y).wf = true)) → (Lit.int .i64 a2).wf = true → f5 a1 a2 = some true)
    (v0 : Value) (v1 : Value) (w : World) (h0 : Arg m Go.Proofs.Try.prog w 34 v0) (h1 : Arg m Go.Proofs.Try.prog w 3 v1) : Calls Go.Proofs.Try.prog 5 #[v0, v1] w fun e w' => e = .returned (.bool true) ∧ Below w.heap.size w w' := by
  obtain ⟨v0', rfl, g0, _⟩ := h0.slice rfl
  obtain ⟨x0, y0, r0⟩ := (opn_sl (P := Go.Proofs.Try.prog) (t := 34) (e := 22) rfl rfl (opn_sl (P := Go.Proofs.Try.prog) (t := 22) (e := 3) rfl rfl (opn_int (P := Go.Proofs.Try.prog) (t := 3) (k := .i64) rfl rfl) (Nat.le_of_ble_eq_true rfl)) (Nat.le_of_ble_eq_true rfl)).op m w _ g0
  obtain ⟨u0, _, e0, r0, q0⟩ := r0
  cases q0; cases e0
  obtain ⟨x1, y1, r1⟩ := (opn_int (P := Go.Proofs.Try.prog) (t := 3) (k := .i64) rfl rfl).op m w _ h1.1
  obtain ⟨n1, rfl, _⟩ := h1.int rfl
  obtain ⟨u1, _, e1, r1, q1⟩ := r1
  cases q1; cases e1
  exact law_calls (base0_snd _) codes_ok (f5_ok base0 7 (Nat.le_refl _) x0 x1 true (H x0 x1 y0 y1)) ⟨_, _, rfl, r0, ⟨_, _, rfl, r1, rfl⟩⟩
/-- FlowBack out of its typed function. -/
theorem FlowBack_calls (m : Option Nat) (H : ∀ (a1 : List (List Int)) (a2 : Int), (FitN m a1.length (Go.Proofs.Try.prog.bytesOf 22) ∧ ∀ x ∈ a1, (FitN m x.length (Go.Proofs.Try.prog.bytesOf 3) ∧ ∀ y ∈ x, (Lit.int .i64 y).wf = true)) → (Lit.int .i64 a2).wf = true → f6 a1 a2 = some true)
    (v0 : Value) (v1 : Value) (w : World) (h0 : Arg m Go.Proofs.Try.prog w 34 v0) (h1 : Arg m Go.Proofs.Try.prog w 3 v1) : Calls Go.Proofs.Try.prog 6 #[v0, v1] w fun e w' => e = .returned (.bool true) ∧ Below w.heap.size w w' := by
  obtain ⟨v0', rfl, g0, _⟩ := h0.slice rfl
  obtain ⟨x0, y0, r0⟩ := (opn_sl (P := Go.Proofs.Try.prog) (t := 34) (e := 22) rfl rfl (opn_sl (P := Go.Proofs.Try.prog) (t := 22) (e := 3) rfl rfl (opn_int (P := Go.Proofs.Try.prog) (t := 3) (k := .i64) rfl rfl) (Nat.le_of_ble_eq_true rfl)) (Nat.le_of_ble_eq_true rfl)).op m w _ g0
  obtain ⟨u0, _, e0, r0, q0⟩ := r0
  cases q0; cases e0
  obtain ⟨x1, y1, r1⟩ := (opn_int (P := Go.Proofs.Try.prog) (t := 3) (k := .i64) rfl rfl).op m w _ h1.1
  obtain ⟨n1, rfl, _⟩ := h1.int rfl
  obtain ⟨u1, _, e1, r1, q1⟩ := r1
  cases q1; cases e1
  exact law_calls (base0_snd _) codes_ok (f6_ok base0 7 (Nat.le_refl _) x0 x1 true (H x0 x1 y0 y1)) ⟨_, _, rfl, r0, ⟨_, _, rfl, r1, rfl⟩⟩
/-- FlowWays out of its typed function. -/
theorem FlowWays_calls (m : Option Nat) (H : ∀ (a1 : List (List Int)) (a2 : Int) (a3 : Int), (FitN m a1.length (Go.Proofs.Try.prog.bytesOf 22) ∧ ∀ x ∈ a1, (FitN m x.length (Go.Proofs.Try.prog.bytesOf 3) ∧ ∀ y ∈ x, (Lit.int .i64 y).wf = true)) → (Lit.int .i64 a2).wf = true → (Lit.int .i64 a3).wf = true → f7 a1 a2 a3 = some true)
    (v0 : Value) (v1 : Value) (v2 : Value) (w : World) (h0 : Arg m Go.Proofs.Try.prog w 34 v0) (h1 : Arg m Go.Proofs.Try.prog w 3 v1) (h2 : Arg m Go.Proofs.Try.prog w 3 v2) : Calls Go.Proofs.Try.prog 7 #[v0, v1, v2] w fun e w' => e = .returned (.bool true) ∧ Below w.heap.size w w' := by
  obtain ⟨v0', rfl, g0, _⟩ := h0.slice rfl
  obtain ⟨x0, y0, r0⟩ := (opn_sl (P := Go.Proofs.Try.prog) (t := 34) (e := 22) rfl rfl (opn_sl (P := Go.Proofs.Try.prog) (t := 22) (e := 3) rfl rfl (opn_int (P := Go.Proofs.Try.prog) (t := 3) (k := .i64) rfl rfl) (Nat.le_of_ble_eq_true rfl)) (Nat.le_of_ble_eq_true rfl)).op m w _ g0
  obtain ⟨u0, _, e0, r0, q0⟩ := r0
  cases q0; cases e0
  obtain ⟨x1, y1, r1⟩ := (opn_int (P := Go.Proofs.Try.prog) (t := 3) (k := .i64) rfl rfl).op m w _ h1.1
  obtain ⟨n1, rfl, _⟩ := h1.int rfl
  obtain ⟨u1, _, e1, r1, q1⟩ := r1
  cases q1; cases e1
  obtain ⟨x2, y2, r2⟩ := (opn_int (P := Go.Proofs.Try.prog) (t := 3) (k := .i64) rfl rfl).op m w _ h2.1
  obtain ⟨n2, rfl, _⟩ := h2.int rfl
  obtain ⟨u2, _, e2, r2, q2⟩ := r2
  cases q2; cases e2
  exact law_calls (base0_snd _) codes_ok (f7_ok base0 7 (Nat.le_refl _) x0 x1 x2 true (H x0 x1 x2 y0 y1 y2)) ⟨_, _, rfl, r0, ⟨_, _, rfl, r1, ⟨_, _, rfl, r2, rfl⟩⟩⟩
end Go.Proofs.Ytepegjihlppkcaa.Pm
