/- The laws out of their typed functions. Printed by dec.py. -/
import Derived.Test.YtphbfciikjkkfaaPb
import Derived.Test.YtphbfciikjkkfaaDPenE
namespace Go.Proofs.Ytphbfciikjkkfaa.Pm
set_option maxRecDepth 1000000
set_option maxHeartbeats 20000000
set_option linter.unusedVariables false
open Go.Proofs.Ytphbfciikjkkfaa.Args
open Go.ChangeShapes Go.WideShapes Go.ChangeAt Go.RowKit
def V54 (m : Option Nat) (x : GPen) : Prop := (Lit.int .i64 x.Flags).wf = true ∧ (Lit.int .i64 x.Fore).wf = true ∧ (Lit.int .i64 x.Back).wf = true
theorem opn54 : Opn Go.Proofs.Try.prog 54 e_GPen V54 := ⟨fun m w cs h => by
  obtain ⟨hl, hf⟩ := h.struct rfl
  obtain ⟨x0, v0, r0⟩ := (opn_int (P := Go.Proofs.Try.prog) (t := 3) (k := .i64) rfl rfl).field hf 0 _ rfl rfl
  obtain ⟨x1, v1, r1⟩ := (opn_int (P := Go.Proofs.Try.prog) (t := 3) (k := .i64) rfl rfl).field hf 1 _ rfl rfl
  obtain ⟨x2, v2, r2⟩ := (opn_int (P := Go.Proofs.Try.prog) (t := 3) (k := .i64) rfl rfl).field hf 2 _ rfl rfl
  refine ⟨⟨x0, x1, x2⟩, ⟨v0, v1, v2⟩, ?_⟩
  have hz : RepCs w [] (cs.drop 3) := List.drop_eq_nil_of_le (Nat.le_of_eq (hl.trans rfl))
  exact (List.drop_zero (l := cs)) ▸ ((parts2 (o := 0) r0 (parts2 (o := 1) r1 (parts2 (o := 2) r2 hz))) : RepCs w _ (cs.drop 0)), rfl⟩
/-- PenZero out of its typed function. -/
theorem PenZero_calls (m : Option Nat) (H : ∀ (a1 : GPen) (a2 : GPen) (a3 : List Int), V54 m a1 → V54 m a2 → (FitN m a3.length (Go.Proofs.Try.prog.bytesOf 3) ∧ ∀ x ∈ a3, (Lit.int .i64 x).wf = true) → f11 a1 a2 a3 = some true)
    (v0 : Value) (v1 : Value) (v2 : Value) (w : World) (h0 : Arg m Go.Proofs.Try.prog w 54 v0) (h1 : Arg m Go.Proofs.Try.prog w 54 v1) (h2 : Arg m Go.Proofs.Try.prog w 55 v2) : Calls Go.Proofs.Try.prog 11 #[v0, v1, v2] w fun e w' => e = .returned (.bool true) ∧ Below w.heap.size w w' := by
  obtain ⟨c0, rfl, g0⟩ := h0.agg (.inl ⟨_, rfl⟩)
  obtain ⟨x0, y0, r0⟩ := opn54.op m w _ g0
  obtain ⟨c1, rfl, g1⟩ := h1.agg (.inl ⟨_, rfl⟩)
  obtain ⟨x1, y1, r1⟩ := opn54.op m w _ g1
  obtain ⟨v2', rfl, g2, _⟩ := h2.slice rfl
  obtain ⟨x2, y2, r2⟩ := (opn_sl (P := Go.Proofs.Try.prog) (t := 55) (e := 3) rfl rfl (opn_int (P := Go.Proofs.Try.prog) (t := 3) (k := .i64) rfl rfl) (Nat.le_of_ble_eq_true rfl)).op m w _ g2
  obtain ⟨u2, _, e2, r2, q2⟩ := r2
  cases q2; cases e2
  exact law_calls (base0_snd _) codes_ok (f11_ok base0 7 (Nat.le_refl _) x0 x1 x2 true (H x0 x1 x2 y0 y1 y2)) ⟨_, _, rfl, arg_agg r0, ⟨_, _, rfl, arg_agg r1, ⟨_, _, rfl, r2, rfl⟩⟩⟩
/-- PenBack out of its typed function. -/
theorem PenBack_calls (m : Option Nat) (H : ∀ (a1 : GPen) (a2 : Int), V54 m a1 → (Lit.int .i64 a2).wf = true → f12 a1 a2 = some true)
    (v0 : Value) (v1 : Value) (w : World) (h0 : Arg m Go.Proofs.Try.prog w 54 v0) (h1 : Arg m Go.Proofs.Try.prog w 3 v1) : Calls Go.Proofs.Try.prog 12 #[v0, v1] w fun e w' => e = .returned (.bool true) ∧ Below w.heap.size w w' := by
  obtain ⟨c0, rfl, g0⟩ := h0.agg (.inl ⟨_, rfl⟩)
  obtain ⟨x0, y0, r0⟩ := opn54.op m w _ g0
  obtain ⟨x1, y1, r1⟩ := (opn_int (P := Go.Proofs.Try.prog) (t := 3) (k := .i64) rfl rfl).op m w _ h1.1
  obtain ⟨n1, rfl, _⟩ := h1.int rfl
  obtain ⟨u1, _, e1, r1, q1⟩ := r1
  cases q1; cases e1
  exact law_calls (base0_snd _) codes_ok (f12_ok base0 7 (Nat.le_refl _) x0 x1 true (H x0 x1 y0 y1)) ⟨_, _, rfl, arg_agg r0, ⟨_, _, rfl, r1, rfl⟩⟩
/-- PenMakes out of its typed function. -/
theorem PenMakes_calls (m : Option Nat) (H : ∀ (a1 : GPen) (a2 : GPen), V54 m a1 → V54 m a2 → f10 a1 a2 = some true)
    (v0 : Value) (v1 : Value) (w : World) (h0 : Arg m Go.Proofs.Try.prog w 54 v0) (h1 : Arg m Go.Proofs.Try.prog w 54 v1) : Calls Go.Proofs.Try.prog 10 #[v0, v1] w fun e w' => e = .returned (.bool true) ∧ Below w.heap.size w w' := by
  obtain ⟨c0, rfl, g0⟩ := h0.agg (.inl ⟨_, rfl⟩)
  obtain ⟨x0, y0, r0⟩ := opn54.op m w _ g0
  obtain ⟨c1, rfl, g1⟩ := h1.agg (.inl ⟨_, rfl⟩)
  obtain ⟨x1, y1, r1⟩ := opn54.op m w _ g1
  exact law_calls (base0_snd _) codes_ok (f10_ok base0 7 (Nat.le_refl _) x0 x1 true (H x0 x1 y0 y1)) ⟨_, _, rfl, arg_agg r0, ⟨_, _, rfl, arg_agg r1, rfl⟩⟩
/-- PenJoins out of its typed function. -/
theorem PenJoins_calls (m : Option Nat) (H : ∀ (a1 : GPen) (a2 : List Int) (a3 : List Int), V54 m a1 → (FitN m a2.length (Go.Proofs.Try.prog.bytesOf 3) ∧ ∀ x ∈ a2, (Lit.int .i64 x).wf = true) → (FitN m a3.length (Go.Proofs.Try.prog.bytesOf 3) ∧ ∀ x ∈ a3, (Lit.int .i64 x).wf = true) → f13 a1 a2 a3 = some true)
    (v0 : Value) (v1 : Value) (v2 : Value) (w : World) (h0 : Arg m Go.Proofs.Try.prog w 54 v0) (h1 : Arg m Go.Proofs.Try.prog w 55 v1) (h2 : Arg m Go.Proofs.Try.prog w 55 v2) : Calls Go.Proofs.Try.prog 13 #[v0, v1, v2] w fun e w' => e = .returned (.bool true) ∧ Below w.heap.size w w' := by
  obtain ⟨c0, rfl, g0⟩ := h0.agg (.inl ⟨_, rfl⟩)
  obtain ⟨x0, y0, r0⟩ := opn54.op m w _ g0
  obtain ⟨v1', rfl, g1, _⟩ := h1.slice rfl
  obtain ⟨x1, y1, r1⟩ := (opn_sl (P := Go.Proofs.Try.prog) (t := 55) (e := 3) rfl rfl (opn_int (P := Go.Proofs.Try.prog) (t := 3) (k := .i64) rfl rfl) (Nat.le_of_ble_eq_true rfl)).op m w _ g1
  obtain ⟨u1, _, e1, r1, q1⟩ := r1
  cases q1; cases e1
  obtain ⟨v2', rfl, g2, _⟩ := h2.slice rfl
  obtain ⟨x2, y2, r2⟩ := (opn_sl (P := Go.Proofs.Try.prog) (t := 55) (e := 3) rfl rfl (opn_int (P := Go.Proofs.Try.prog) (t := 3) (k := .i64) rfl rfl) (Nat.le_of_ble_eq_true rfl)).op m w _ g2
  obtain ⟨u2, _, e2, r2, q2⟩ := r2
  cases q2; cases e2
  exact law_calls (base0_snd _) codes_ok (f13_ok base0 7 (Nat.le_refl _) x0 x1 x2 true (H x0 x1 x2 y0 y1 y2)) ⟨_, _, rfl, arg_agg r0, ⟨_, _, rfl, r1, ⟨_, _, rfl, r2, rfl⟩⟩⟩
end Go.Proofs.Ytphbfciikjkkfaa.Pm
