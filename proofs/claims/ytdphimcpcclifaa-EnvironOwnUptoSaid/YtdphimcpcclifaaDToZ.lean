/- The laws out of their typed functions. Printed by dec.py. -/
import Derived.Test.YtdphimcpcclifaaPb
import Derived.Test.YtdphimcpcclifaaDToE
import Derived.Test.YtdphimcpcclifaaDToL
namespace Go.Proofs.Ytdphimcpcclifaa.Pm
set_option maxRecDepth 1000000
set_option maxHeartbeats 20000000
set_option linter.unusedVariables false
open Go.Proofs.Ytdphimcpcclifaa.Args
open Go.ChangeShapes Go.WideShapes Go.ChangeAt Go.RowKit
def V25 (m : Option Nat) (x : GVar) : Prop := (x.Name.length ≤ maxLen ∧ FitN m x.Name.length 1) ∧ (x.Value.length ≤ maxLen ∧ FitN m x.Value.length 1) ∧ True ∧ True
theorem opn25 : Opn Go.Proofs.Try.prog 25 e_GVar V25 := ⟨fun m w cs h => by
  obtain ⟨hl, hf⟩ := h.struct rfl
  obtain ⟨x0, v0, r0⟩ := (opn_str (P := Go.Proofs.Try.prog) (t := 9) rfl rfl).field hf 0 _ rfl rfl
  obtain ⟨x1, v1, r1⟩ := (opn_str (P := Go.Proofs.Try.prog) (t := 9) rfl rfl).field hf 1 _ rfl rfl
  obtain ⟨x2, v2, r2⟩ := (opn_bool (P := Go.Proofs.Try.prog) (t := 4) rfl rfl).field hf 2 _ rfl rfl
  obtain ⟨x3, v3, r3⟩ := (opn_bool (P := Go.Proofs.Try.prog) (t := 4) rfl rfl).field hf 3 _ rfl rfl
  refine ⟨⟨x0, x1, x2, x3⟩, ⟨v0, v1, v2, v3⟩, ?_⟩
  have hz : RepCs w [] (cs.drop 4) := List.drop_eq_nil_of_le (Nat.le_of_eq (hl.trans rfl))
  exact (List.drop_zero (l := cs)) ▸ ((parts2 (o := 0) r0 (parts2 (o := 1) r1 (parts2 (o := 2) r2 (parts2 (o := 3) r3 hz)))) : RepCs w _ (cs.drop 0)), rfl⟩
/-- EnvironTold out of its typed function. -/
theorem EnvironTold_calls (m : Option Nat) (H : ∀ (a1 : List GVar) (a2 : List GVar), (FitN m a1.length (Go.Proofs.Try.prog.bytesOf 25) ∧ ∀ x ∈ a1, V25 m x) → (FitN m a2.length (Go.Proofs.Try.prog.bytesOf 25) ∧ ∀ x ∈ a2, V25 m x) → f4 a1 a2 = some true)
    (v0 : Value) (v1 : Value) (w : World) (h0 : Arg m Go.Proofs.Try.prog w 22 v0) (h1 : Arg m Go.Proofs.Try.prog w 22 v1) : Calls Go.Proofs.Try.prog 4 #[v0, v1] w fun e w' => e = .returned (.bool true) ∧ Below w.heap.size w w' := by
  obtain ⟨v0', rfl, g0, _⟩ := h0.slice rfl
  obtain ⟨x0, y0, r0⟩ := (opn_sl (P := Go.Proofs.Try.prog) (t := 22) (e := 25) rfl rfl opn25 (Nat.le_of_ble_eq_true rfl)).op m w _ g0
  obtain ⟨u0, _, e0, r0, q0⟩ := r0
  cases q0; cases e0
  obtain ⟨v1', rfl, g1, _⟩ := h1.slice rfl
  obtain ⟨x1, y1, r1⟩ := (opn_sl (P := Go.Proofs.Try.prog) (t := 22) (e := 25) rfl rfl opn25 (Nat.le_of_ble_eq_true rfl)).op m w _ g1
  obtain ⟨u1, _, e1, r1, q1⟩ := r1
  cases q1; cases e1
  exact law_calls (baseL_snd _ _) codes_ok (f4_ok 6 (Nat.le_refl _) x0 x1 true (H x0 x1 y0 y1)) ⟨_, _, rfl, r0, ⟨_, _, rfl, r1, rfl⟩⟩
end Go.Proofs.Ytdphimcpcclifaa.Pm
