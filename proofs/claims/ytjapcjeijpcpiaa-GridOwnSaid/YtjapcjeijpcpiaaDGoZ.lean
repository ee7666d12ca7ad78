/- The laws out of their typed functions. Printed by dec.py. -/
import Derived.Test.YtjapcjeijpcpiaaPb
import Derived.Test.YtjapcjeijpcpiaaDGoF
namespace Go.Proofs.Ytjapcjeijpcpiaa.Pm
set_option maxRecDepth 1000000
set_option maxHeartbeats 20000000
set_option linter.unusedVariables false
open Go.Proofs.Ytjapcjeijpcpiaa.Args
open Go.ChangeShapes Go.WideShapes Go.ChangeAt Go.RowKit
def V26 (m : Option Nat) (x : GPen) : Prop := (Lit.int .i64 x.Flags).wf = true ∧ (Lit.int .i64 x.Fore).wf = true ∧ (Lit.int .i64 x.Back).wf = true
theorem opn26 : Opn Go.Proofs.Try.prog 26 e_GPen V26 := ⟨fun m w cs h => by
  obtain ⟨hl, hf⟩ := h.struct rfl
  obtain ⟨x0, v0, r0⟩ := (opn_int (P := Go.Proofs.Try.prog) (t := 3) (k := .i64) rfl rfl).field hf 0 _ rfl rfl
  obtain ⟨x1, v1, r1⟩ := (opn_int (P := Go.Proofs.Try.prog) (t := 3) (k := .i64) rfl rfl).field hf 1 _ rfl rfl
  obtain ⟨x2, v2, r2⟩ := (opn_int (P := Go.Proofs.Try.prog) (t := 3) (k := .i64) rfl rfl).field hf 2 _ rfl rfl
  refine ⟨⟨x0, x1, x2⟩, ⟨v0, v1, v2⟩, ?_⟩
  have hz : RepCs w [] (cs.drop 3) := List.drop_eq_nil_of_le (Nat.le_of_eq (hl.trans rfl))
  exact (List.drop_zero (l := cs)) ▸ ((parts2 (o := 0) r0 (parts2 (o := 1) r1 (parts2 (o := 2) r2 hz))) : RepCs w _ (cs.drop 0)), rfl⟩
def V36 (m : Option Nat) (x : GCell) : Prop := (Lit.int .i64 x.Rune).wf = true ∧ V26 m x.Pen
theorem opn36 : Opn Go.Proofs.Try.prog 36 e_GCell V36 := ⟨fun m w cs h => by
  obtain ⟨hl, hf⟩ := h.struct rfl
  obtain ⟨x0, v0, r0⟩ := (opn_int (P := Go.Proofs.Try.prog) (t := 3) (k := .i64) rfl rfl).field hf 0 _ rfl rfl
  obtain ⟨x1, v1, r1⟩ := opn26.field hf 1 _ rfl rfl
  refine ⟨⟨x0, x1⟩, ⟨v0, v1⟩, ?_⟩
  have hz : RepCs w [] (cs.drop 4) := List.drop_eq_nil_of_le (Nat.le_of_eq (hl.trans rfl))
  exact (List.drop_zero (l := cs)) ▸ ((parts2 (o := 0) r0 (parts2 (o := 1) r1 hz)) : RepCs w _ (cs.drop 0)), rfl⟩
def V24 (m : Option Nat) (x : GGrid) : Prop := (Lit.int .i64 x.Wide).wf = true ∧ (Lit.int .i64 x.High).wf = true ∧ (FitN m x.Cells.length (Go.Proofs.Try.prog.bytesOf 36) ∧ ∀ y ∈ x.Cells, V36 m y)
theorem opn24 : Opn Go.Proofs.Try.prog 24 e_GGrid V24 := ⟨fun m w cs h => by
  obtain ⟨hl, hf⟩ := h.struct rfl
  obtain ⟨x0, v0, r0⟩ := (opn_int (P := Go.Proofs.Try.prog) (t := 3) (k := .i64) rfl rfl).field hf 0 _ rfl rfl
  obtain ⟨x1, v1, r1⟩ := (opn_int (P := Go.Proofs.Try.prog) (t := 3) (k := .i64) rfl rfl).field hf 1 _ rfl rfl
  obtain ⟨x2, v2, r2⟩ := (opn_sl (P := Go.Proofs.Try.prog) (t := 22) (e := 36) rfl rfl opn36 (Nat.le_of_ble_eq_true rfl)).field hf 2 _ rfl rfl
  refine ⟨⟨x0, x1, x2⟩, ⟨v0, v1, v2⟩, ?_⟩
  have hz : RepCs w [] (cs.drop 3) := List.drop_eq_nil_of_le (Nat.le_of_eq (hl.trans rfl))
  exact (List.drop_zero (l := cs)) ▸ ((parts2 (o := 0) r0 (parts2 (o := 1) r1 (parts2 (o := 2) r2 hz))) : RepCs w _ (cs.drop 0)), rfl⟩
/-- GridAlone out of its typed function. -/
theorem GridAlone_calls (m : Option Nat) (H : ∀ (a1 : GGrid) (a2 : Int) (a3 : Int) (a4 : Int) (a5 : Int) (a6 : Int) (a7 : GPen), V24 m a1 → (Lit.int .i64 a2).wf = true → (Lit.int .i64 a3).wf = true → (Lit.int .i64 a4).wf = true → (Lit.int .i64 a5).wf = true → (Lit.int .i64 a6).wf = true → V26 m a7 → f3 a1 a2 a3 a4 a5 a6 a7 = some true)
    (v0 : Value) (v1 : Value) (v2 : Value) (v3 : Value) (v4 : Value) (v5 : Value) (v6 : Value) (w : World) (h0 : Arg m Go.Proofs.Try.prog w 24 v0) (h1 : Arg m Go.Proofs.Try.prog w 3 v1) (h2 : Arg m Go.Proofs.Try.prog w 3 v2) (h3 : Arg m Go.Proofs.Try.prog w 3 v3) (h4 : Arg m Go.Proofs.Try.prog w 3 v4) (h5 : Arg m Go.Proofs.Try.prog w 3 v5) (h6 : Arg m Go.Proofs.Try.prog w 26 v6) : Calls Go.Proofs.Try.prog 3 #[v0, v1, v2, v3, v4, v5, v6] w fun e w' => e = .returned (.bool true) ∧ Below w.heap.size w w' := by
  obtain ⟨c0, rfl, g0⟩ := h0.agg (.inl ⟨_, rfl⟩)
  obtain ⟨x0, y0, r0⟩ := opn24.op m w _ g0
  obtain ⟨x1, y1, r1⟩ := (opn_int (P := Go.Proofs.Try.prog) (t := 3) (k := .i64) rfl rfl).op m w _ h1.1
  obtain ⟨n1, rfl, _⟩ := h1.int rfl
  obtain ⟨u1, _, e1, r1, q1⟩ := r1
  cases q1; cases e1
  obtain ⟨x2, y2, r2⟩ := (opn_int (P := Go.Proofs.Try.prog) (t := 3) (k := .i64) rfl rfl).op m w _ h2.1
  obtain ⟨n2, rfl, _⟩ := h2.int rfl
  obtain ⟨u2, _, e2, r2, q2⟩ := r2
  cases q2; cases e2
  obtain ⟨x3, y3, r3⟩ := (opn_int (P := Go.Proofs.Try.prog) (t := 3) (k := .i64) rfl rfl).op m w _ h3.1
  obtain ⟨n3, rfl, _⟩ := h3.int rfl
  obtain ⟨u3, _, e3, r3, q3⟩ := r3
  cases q3; cases e3
  obtain ⟨x4, y4, r4⟩ := (opn_int (P := Go.Proofs.Try.prog) (t := 3) (k := .i64) rfl rfl).op m w _ h4.1
  obtain ⟨n4, rfl, _⟩ := h4.int rfl
  obtain ⟨u4, _, e4, r4, q4⟩ := r4
  cases q4; cases e4
  obtain ⟨x5, y5, r5⟩ := (opn_int (P := Go.Proofs.Try.prog) (t := 3) (k := .i64) rfl rfl).op m w _ h5.1
  obtain ⟨n5, rfl, _⟩ := h5.int rfl
  obtain ⟨u5, _, e5, r5, q5⟩ := r5
  cases q5; cases e5
  obtain ⟨c6, rfl, g6⟩ := h6.agg (.inl ⟨_, rfl⟩)
  obtain ⟨x6, y6, r6⟩ := opn26.op m w _ g6
  exact law_calls (base0_snd _) codes_ok (f3_ok base0 8 (Nat.le_refl _) x0 x1 x2 x3 x4 x5 x6 true (H x0 x1 x2 x3 x4 x5 x6 y0 y1 y2 y3 y4 y5 y6)) ⟨_, _, rfl, arg_agg r0, ⟨_, _, rfl, r1, ⟨_, _, rfl, r2, ⟨_, _, rfl, r3, ⟨_, _, rfl, r4, ⟨_, _, rfl, r5, ⟨_, _, rfl, arg_agg r6, rfl⟩⟩⟩⟩⟩⟩⟩
end Go.Proofs.Ytjapcjeijpcpiaa.Pm
