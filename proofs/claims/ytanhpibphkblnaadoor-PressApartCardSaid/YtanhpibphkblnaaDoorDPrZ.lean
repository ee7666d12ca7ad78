/- The laws out of their typed functions. Printed by dec.py. -/
import Derived.Test.YtanhpibphkblnaaDoorPb
import Derived.Test.YtanhpibphkblnaaDoorDPrD
import Derived.Test.YtanhpibphkblnaaDoorDPrL
namespace Go.Proofs.YtanhpibphkblnaaDoor.Pm
set_option maxRecDepth 1000000
set_option maxHeartbeats 20000000
set_option linter.unusedVariables false
open Go.Proofs.YtanhpibphkblnaaDoor.Args
open Go.ChangeShapes Go.WideShapes Go.ChangeAt Go.RowKit
def V42 (m : Option Nat) (x : GKey) : Prop := (Lit.int .i64 x.Name).wf = true ∧ (Lit.int .i64 x.Rune).wf = true ∧ (Lit.int .i64 x.Mods).wf = true
theorem opn42 : Opn Go.Proofs.Tryd.prog 42 e_GKey V42 := ⟨fun m w cs h => by
  obtain ⟨hl, hf⟩ := h.struct rfl
  obtain ⟨x0, v0, r0⟩ := (opn_int (P := Go.Proofs.Tryd.prog) (t := 3) (k := .i64) rfl rfl).field hf 0 _ rfl rfl
  obtain ⟨x1, v1, r1⟩ := (opn_int (P := Go.Proofs.Tryd.prog) (t := 3) (k := .i64) rfl rfl).field hf 1 _ rfl rfl
  obtain ⟨x2, v2, r2⟩ := (opn_int (P := Go.Proofs.Tryd.prog) (t := 3) (k := .i64) rfl rfl).field hf 2 _ rfl rfl
  refine ⟨⟨x0, x1, x2⟩, ⟨v0, v1, v2⟩, ?_⟩
  have hz : RepCs w [] (cs.drop 3) := List.drop_eq_nil_of_le (Nat.le_of_eq (hl.trans rfl))
  exact (List.drop_zero (l := cs)) ▸ ((parts2 (o := 0) r0 (parts2 (o := 1) r1 (parts2 (o := 2) r2 hz))) : RepCs w _ (cs.drop 0)), rfl⟩
/-- PressAlt out of its typed function. -/
theorem PressAlt_calls (m : Option Nat) (H : ∀ (a1 : GKey) (a2 : Int), V42 m a1 → (Lit.int .i64 a2).wf = true → f6 a1 a2 = some true)
    (v0 : Value) (v1 : Value) (w : World) (h0 : Arg m Go.Proofs.Tryd.prog w 42 v0) (h1 : Arg m Go.Proofs.Tryd.prog w 3 v1) : Calls Go.Proofs.Tryd.prog 6 #[v0, v1] w fun e w' => e = .returned (.bool true) ∧ Below w.heap.size w w' := by
  obtain ⟨c0, rfl, g0⟩ := h0.agg (.inl ⟨_, rfl⟩)
  obtain ⟨x0, y0, r0⟩ := opn42.op m w _ g0
  obtain ⟨x1, y1, r1⟩ := (opn_int (P := Go.Proofs.Tryd.prog) (t := 3) (k := .i64) rfl rfl).op m w _ h1.1
  obtain ⟨n1, rfl, _⟩ := h1.int rfl
  obtain ⟨u1, _, e1, r1, q1⟩ := r1
  cases q1; cases e1
  exact law_calls (baseL_snd _ _) codes_ok (f6_ok 8 (Nat.le_refl _) x0 x1 true (H x0 x1 y0 y1)) ⟨_, _, rfl, arg_agg r0, ⟨_, _, rfl, r1, rfl⟩⟩
/-- PressApart out of its typed function. -/
theorem PressApart_calls (m : Option Nat) (H : ∀ (a1 : Int) (a2 : Int) (a3 : Int) (a4 : Int) (a5 : Int), (Lit.int .i64 a1).wf = true → (Lit.int .i64 a2).wf = true → (Lit.int .i64 a3).wf = true → (Lit.int .i64 a4).wf = true → (Lit.int .i64 a5).wf = true → f5 a1 a2 a3 a4 a5 = some true)
    (v0 : Value) (v1 : Value) (v2 : Value) (v3 : Value) (v4 : Value) (w : World) (h0 : Arg m Go.Proofs.Tryd.prog w 3 v0) (h1 : Arg m Go.Proofs.Tryd.prog w 3 v1) (h2 : Arg m Go.Proofs.Tryd.prog w 3 v2) (h3 : Arg m Go.Proofs.Tryd.prog w 3 v3) (h4 : Arg m Go.Proofs.Tryd.prog w 3 v4) : Calls Go.Proofs.Tryd.prog 5 #[v0, v1, v2, v3, v4] w fun e w' => e = .returned (.bool true) ∧ Below w.heap.size w w' := by
  obtain ⟨x0, y0, r0⟩ := (opn_int (P := Go.Proofs.Tryd.prog) (t := 3) (k := .i64) rfl rfl).op m w _ h0.1
  obtain ⟨n0, rfl, _⟩ := h0.int rfl
  obtain ⟨u0, _, e0, r0, q0⟩ := r0
  cases q0; cases e0
  obtain ⟨x1, y1, r1⟩ := (opn_int (P := Go.Proofs.Tryd.prog) (t := 3) (k := .i64) rfl rfl).op m w _ h1.1
  obtain ⟨n1, rfl, _⟩ := h1.int rfl
  obtain ⟨u1, _, e1, r1, q1⟩ := r1
  cases q1; cases e1
  obtain ⟨x2, y2, r2⟩ := (opn_int (P := Go.Proofs.Tryd.prog) (t := 3) (k := .i64) rfl rfl).op m w _ h2.1
  obtain ⟨n2, rfl, _⟩ := h2.int rfl
  obtain ⟨u2, _, e2, r2, q2⟩ := r2
  cases q2; cases e2
  obtain ⟨x3, y3, r3⟩ := (opn_int (P := Go.Proofs.Tryd.prog) (t := 3) (k := .i64) rfl rfl).op m w _ h3.1
  obtain ⟨n3, rfl, _⟩ := h3.int rfl
  obtain ⟨u3, _, e3, r3, q3⟩ := r3
  cases q3; cases e3
  obtain ⟨x4, y4, r4⟩ := (opn_int (P := Go.Proofs.Tryd.prog) (t := 3) (k := .i64) rfl rfl).op m w _ h4.1
  obtain ⟨n4, rfl, _⟩ := h4.int rfl
  obtain ⟨u4, _, e4, r4, q4⟩ := r4
  cases q4; cases e4
  exact law_calls (baseL_snd _ _) codes_ok (f5_ok 8 (Nat.le_refl _) x0 x1 x2 x3 x4 true (H x0 x1 x2 x3 x4 y0 y1 y2 y3 y4)) ⟨_, _, rfl, r0, ⟨_, _, rfl, r1, ⟨_, _, rfl, r2, ⟨_, _, rfl, r3, ⟨_, _, rfl, r4, rfl⟩⟩⟩⟩⟩
end Go.Proofs.YtanhpibphkblnaaDoor.Pm
