/- The laws out of their typed functions. Printed by dec.py. -/
import Derived.Test.YthblnlmpfgfgcaaDoorPb
import Derived.Test.YthblnlmpfgfgcaaDoorDIbE
import Derived.Test.YthblnlmpfgfgcaaDoorDIbL
namespace Go.Proofs.YthblnlmpfgfgcaaDoor.Pm
set_option maxRecDepth 1000000
set_option maxHeartbeats 20000000
set_option linter.unusedVariables false
open Go.Proofs.YthblnlmpfgfgcaaDoor.Args
open Go.ChangeShapes Go.WideShapes Go.ChangeAt Go.RowKit
def V50 (m : Option Nat) (x : GTok) : Prop := (Lit.int .i64 x.Kind).wf = true ∧ (Lit.int .i64 x.Cmd).wf = true ∧ (Lit.int .i64 x.Opt).wf = true ∧ (x.Data.length ≤ maxLen ∧ FitN m x.Data.length 1)
theorem opn50 : Opn Go.Proofs.Tryd.prog 50 e_GTok V50 := ⟨fun m w cs h => by
  obtain ⟨hl, hf⟩ := h.struct rfl
  obtain ⟨x0, v0, r0⟩ := (opn_int (P := Go.Proofs.Tryd.prog) (t := 3) (k := .i64) rfl rfl).field hf 0 _ rfl rfl
  obtain ⟨x1, v1, r1⟩ := (opn_int (P := Go.Proofs.Tryd.prog) (t := 3) (k := .i64) rfl rfl).field hf 1 _ rfl rfl
  obtain ⟨x2, v2, r2⟩ := (opn_int (P := Go.Proofs.Tryd.prog) (t := 3) (k := .i64) rfl rfl).field hf 2 _ rfl rfl
  obtain ⟨x3, v3, r3⟩ := (opn_str (P := Go.Proofs.Tryd.prog) (t := 9) rfl rfl).field hf 3 _ rfl rfl
  refine ⟨⟨x0, x1, x2, x3⟩, ⟨v0, v1, v2, v3⟩, ?_⟩
  have hz : RepCs w [] (cs.drop 4) := List.drop_eq_nil_of_le (Nat.le_of_eq (hl.trans rfl))
  exact (List.drop_zero (l := cs)) ▸ ((parts2 (o := 0) r0 (parts2 (o := 1) r1 (parts2 (o := 2) r2 (parts2 (o := 3) r3 hz)))) : RepCs w _ (cs.drop 0)), rfl⟩
/-- IacBack out of its typed function. -/
theorem IacBack_calls (m : Option Nat) (H : ∀ (a1 : List GTok), (FitN m a1.length (Go.Proofs.Tryd.prog.bytesOf 50) ∧ ∀ x ∈ a1, V50 m x) → f4 a1 = some true)
    (v0 : Value) (w : World) (h0 : Arg m Go.Proofs.Tryd.prog w 48 v0) (hm : ∃ m, w.cell? ⟨0, 0, none⟩ = some (.int .i64 m)) : Calls Go.Proofs.Tryd.prog 4 #[v0] w fun e w' => e = .returned (.bool true) ∧ Below w.heap.size w w' := by
  obtain ⟨v0', rfl, g0, _⟩ := h0.slice rfl
  obtain ⟨x0, y0, r0⟩ := (opn_sl (P := Go.Proofs.Tryd.prog) (t := 48) (e := 50) rfl rfl opn50 (Nat.le_of_ble_eq_true rfl)).op m w _ g0
  obtain ⟨u0, _, e0, r0, q0⟩ := r0
  cases q0; cases e0
  exact law_calls (baseL_snd _ _ (fun _ _ _ h => by cases h) hm) codes_ok (f4_ok 7 (Nat.le_refl _) x0 true (H x0 y0)) ⟨_, _, rfl, r0, rfl⟩
end Go.Proofs.YthblnlmpfgfgcaaDoor.Pm
