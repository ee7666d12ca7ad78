/- The laws out of their typed functions. Printed by dec.py. -/
import Derived.Test.YtnnnfncebpkaoaaPb
import Derived.Test.YtnnnfncebpkaoaaDFpE
namespace Go.Proofs.Ytnnnfncebpkaoaa.Pm
set_option maxRecDepth 1000000
set_option maxHeartbeats 20000000
set_option linter.unusedVariables false
open Go.Proofs.Ytnnnfncebpkaoaa.Args
open Go.ChangeShapes Go.WideShapes Go.ChangeAt Go.RowKit
def V35 (m : Option Nat) (x : GRow) : Prop := (FitN m x.Runes.length (Go.Proofs.Try.prog.bytesOf 3) ∧ ∀ y ∈ x.Runes, (Lit.int .i64 y).wf = true) ∧ True
theorem opn35 : Opn Go.Proofs.Try.prog 35 e_GRow V35 := ⟨fun m w cs h => by
  obtain ⟨hl, hf⟩ := h.struct rfl
  obtain ⟨x0, v0, r0⟩ := (opn_sl (P := Go.Proofs.Try.prog) (t := 32) (e := 3) rfl rfl (opn_int (P := Go.Proofs.Try.prog) (t := 3) (k := .i64) rfl rfl) (Nat.le_of_ble_eq_true rfl)).field hf 0 _ rfl rfl
  obtain ⟨x1, v1, r1⟩ := (opn_bool (P := Go.Proofs.Try.prog) (t := 4) rfl rfl).field hf 1 _ rfl rfl
  refine ⟨⟨x0, x1⟩, ⟨v0, v1⟩, ?_⟩
  have hz : RepCs w [] (cs.drop 2) := List.drop_eq_nil_of_le (Nat.le_of_eq (hl.trans rfl))
  exact (List.drop_zero (l := cs)) ▸ ((parts2 (o := 0) r0 (parts2 (o := 1) r1 hz)) : RepCs w _ (cs.drop 0)), rfl⟩
/-- FlowOwn out of its typed function. -/
theorem FlowOwn_calls (m : Option Nat) (H : ∀ (a1 : List (List Int)) (a2 : List GRow) (a3 : Int), (FitN m a1.length (Go.Proofs.Try.prog.bytesOf 32) ∧ ∀ x ∈ a1, (FitN m x.length (Go.Proofs.Try.prog.bytesOf 3) ∧ ∀ y ∈ x, (Lit.int .i64 y).wf = true)) → (FitN m a2.length (Go.Proofs.Try.prog.bytesOf 35) ∧ ∀ x ∈ a2, V35 m x) → (Lit.int .i64 a3).wf = true → f4 a1 a2 a3 = some true)
    (v0 : Value) (v1 : Value) (v2 : Value) (w : World) (h0 : Arg m Go.Proofs.Try.prog w 22 v0) (h1 : Arg m Go.Proofs.Try.prog w 23 v1) (h2 : Arg m Go.Proofs.Try.prog w 3 v2) : Calls Go.Proofs.Try.prog 4 #[v0, v1, v2] w fun e w' => e = .returned (.bool true) ∧ Below w.heap.size w w' := by
  obtain ⟨v0', rfl, g0, _⟩ := h0.slice rfl
  obtain ⟨x0, y0, r0⟩ := (opn_sl (P := Go.Proofs.Try.prog) (t := 22) (e := 32) rfl rfl (opn_sl (P := Go.Proofs.Try.prog) (t := 32) (e := 3) rfl rfl (opn_int (P := Go.Proofs.Try.prog) (t := 3) (k := .i64) rfl rfl) (Nat.le_of_ble_eq_true rfl)) (Nat.le_of_ble_eq_true rfl)).op m w _ g0
  obtain ⟨u0, _, e0, r0, q0⟩ := r0
  cases q0; cases e0
  obtain ⟨v1', rfl, g1, _⟩ := h1.slice rfl
  obtain ⟨x1, y1, r1⟩ := (opn_sl (P := Go.Proofs.Try.prog) (t := 23) (e := 35) rfl rfl opn35 (Nat.le_of_ble_eq_true rfl)).op m w _ g1
  obtain ⟨u1, _, e1, r1, q1⟩ := r1
  cases q1; cases e1
  obtain ⟨x2, y2, r2⟩ := (opn_int (P := Go.Proofs.Try.prog) (t := 3) (k := .i64) rfl rfl).op m w _ h2.1
  obtain ⟨n2, rfl, _⟩ := h2.int rfl
  obtain ⟨u2, _, e2, r2, q2⟩ := r2
  cases q2; cases e2
  exact law_calls (base0_snd _) codes_ok (f4_ok base0 7 (Nat.le_refl _) x0 x1 x2 true (H x0 x1 x2 y0 y1 y2)) ⟨_, _, rfl, r0, ⟨_, _, rfl, r1, ⟨_, _, rfl, r2, rfl⟩⟩⟩
end Go.Proofs.Ytnnnfncebpkaoaa.Pm
