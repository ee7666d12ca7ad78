/- The laws out of their typed functions. Printed by dec.py. -/
import Derived.Test.YtcbhpadficfnnaaDoorPb
import Derived.Test.YtcbhpadficfnnaaDoorDPkE
import Derived.Test.YtcbhpadficfnnaaDoorDPkL
namespace Go.Proofs.YtcbhpadficfnnaaDoor.Pm
set_option maxRecDepth 1000000
set_option maxHeartbeats 20000000
set_option linter.unusedVariables false
open Go.Proofs.YtcbhpadficfnnaaDoor.Args
open Go.ChangeShapes Go.WideShapes Go.ChangeAt Go.RowKit
def V23 (m : Option Nat) (x : GMouse) : Prop := (Lit.int .i64 x.Button).wf = true ∧ (Lit.int .i64 x.Col).wf = true ∧ (Lit.int .i64 x.Row).wf = true ∧ (Lit.int .i64 x.Mods).wf = true ∧ True
theorem opn23 : Opn Go.Proofs.Tryd.prog 23 e_GMouse V23 := ⟨fun m w cs h => by
  obtain ⟨hl, hf⟩ := h.struct rfl
  obtain ⟨x0, v0, r0⟩ := (opn_int (P := Go.Proofs.Tryd.prog) (t := 3) (k := .i64) rfl rfl).field hf 0 _ rfl rfl
  obtain ⟨x1, v1, r1⟩ := (opn_int (P := Go.Proofs.Tryd.prog) (t := 3) (k := .i64) rfl rfl).field hf 1 _ rfl rfl
  obtain ⟨x2, v2, r2⟩ := (opn_int (P := Go.Proofs.Tryd.prog) (t := 3) (k := .i64) rfl rfl).field hf 2 _ rfl rfl
  obtain ⟨x3, v3, r3⟩ := (opn_int (P := Go.Proofs.Tryd.prog) (t := 3) (k := .i64) rfl rfl).field hf 3 _ rfl rfl
  obtain ⟨x4, v4, r4⟩ := (opn_bool (P := Go.Proofs.Tryd.prog) (t := 4) rfl rfl).field hf 4 _ rfl rfl
  refine ⟨⟨x0, x1, x2, x3, x4⟩, ⟨v0, v1, v2, v3, v4⟩, ?_⟩
  have hz : RepCs w [] (cs.drop 5) := List.drop_eq_nil_of_le (Nat.le_of_eq (hl.trans rfl))
  exact (List.drop_zero (l := cs)) ▸ ((parts2 (o := 0) r0 (parts2 (o := 1) r1 (parts2 (o := 2) r2 (parts2 (o := 3) r3 (parts2 (o := 4) r4 hz))))) : RepCs w _ (cs.drop 0)), rfl⟩
/-- PressBack out of its typed function. -/
theorem PressBack_calls (m : Option Nat) (H : ∀ (a1 : GMouse) (a2 : List UInt8), V23 m a1 → (a2.length ≤ maxLen ∧ FitN m a2.length 1) → f3 a1 a2 = some true)
    (v0 : Value) (v1 : Value) (w : World) (h0 : Arg m Go.Proofs.Tryd.prog w 23 v0) (h1 : Arg m Go.Proofs.Tryd.prog w 9 v1) (hm : ∃ m, w.cell? ⟨3, 0, none⟩ = some (.int .i64 m)) (ht : Lib.TabIs Go.Proofs.Tryd.prog w "internal/strconv.uint64pow10" .u64 Lib.pow10Tab) (he : ErrAt 0 w ∧ ErrAt 1 w) : Calls Go.Proofs.Tryd.prog 3 #[v0, v1] w fun e w' => e = .returned (.bool true) ∧ Below w.heap.size w w' := by
  obtain ⟨c0, rfl, g0⟩ := h0.agg (.inl ⟨_, rfl⟩)
  obtain ⟨x0, y0, r0⟩ := opn23.op m w _ g0
  obtain ⟨x1, y1, r1⟩ := (opn_str (P := Go.Proofs.Tryd.prog) (t := 9) rfl rfl).op m w _ h1.1
  obtain ⟨n1, rfl, _⟩ := h1.string rfl
  obtain ⟨u1, _, e1, r1, q1⟩ := r1
  cases q1; cases e1
  exact law_calls (baseL_snd _ _ (fun _ _ _ h => by cases h) hm ht he) codes_ok (f3_ok 8 (Nat.le_refl _) x0 x1 true (H x0 x1 y0 y1)) ⟨_, _, rfl, arg_agg r0, ⟨_, _, rfl, r1, rfl⟩⟩
end Go.Proofs.YtcbhpadficfnnaaDoor.Pm
