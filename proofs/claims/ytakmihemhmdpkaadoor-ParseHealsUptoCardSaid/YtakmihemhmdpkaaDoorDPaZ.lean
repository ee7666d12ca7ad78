/- The laws out of their typed functions. Printed by dec.py. -/
import Derived.Test.YtakmihemhmdpkaaDoorPb
import Derived.Test.YtakmihemhmdpkaaDoorDPaF
import Derived.Test.YtakmihemhmdpkaaDoorDPaL
namespace Go.Proofs.YtakmihemhmdpkaaDoor.Pm
set_option maxRecDepth 1000000
set_option maxHeartbeats 20000000
set_option linter.unusedVariables false
open Go.Proofs.YtakmihemhmdpkaaDoor.Args
open Go.ChangeShapes Go.WideShapes Go.ChangeAt Go.RowKit
/-- ParsePlain out of its typed function. -/
theorem ParsePlain_calls (m : Option Nat) (H : ∀ (a1 : List Int), (FitN m a1.length (Go.Proofs.Tryd.prog.bytesOf 3) ∧ ∀ x ∈ a1, (Lit.int .i64 x).wf = true) → f3 a1 = some true)
    (v0 : Value) (w : World) (h0 : Arg m Go.Proofs.Tryd.prog w 22 v0) (hm : ∃ m, w.cell? ⟨2, 0, none⟩ = some (.int .i64 m)) : Calls Go.Proofs.Tryd.prog 3 #[v0] w fun e w' => e = .returned (.bool true) ∧ Below w.heap.size w w' := by
  obtain ⟨v0', rfl, g0, _⟩ := h0.slice rfl
  obtain ⟨x0, y0, r0⟩ := (opn_sl (P := Go.Proofs.Tryd.prog) (t := 22) (e := 3) rfl rfl (opn_int (P := Go.Proofs.Tryd.prog) (t := 3) (k := .i64) rfl rfl) (Nat.le_of_ble_eq_true rfl)).op m w _ g0
  obtain ⟨u0, _, e0, r0, q0⟩ := r0
  cases q0; cases e0
  exact law_calls (baseL_snd _ _ (fun _ _ _ h => by cases h) hm) codes_ok (f3_ok 8 (Nat.le_refl _) x0 true (H x0 y0)) ⟨_, _, rfl, r0, rfl⟩
def V24 (m : Option Nat) (x : GParser) : Prop := (Lit.int .i64 x.State).wf = true ∧ (Lit.int .i64 x.Mark).wf = true ∧ (x.Inter.length ≤ maxLen ∧ FitN m x.Inter.length 1) ∧ (x.Args.length ≤ maxLen ∧ FitN m x.Args.length 1) ∧ (x.Text.length ≤ maxLen ∧ FitN m x.Text.length 1)
theorem opn24 : Opn Go.Proofs.Tryd.prog 24 e_GParser V24 := ⟨fun m w cs h => by
  obtain ⟨hl, hf⟩ := h.struct rfl
  obtain ⟨x0, v0, r0⟩ := (opn_int (P := Go.Proofs.Tryd.prog) (t := 3) (k := .i64) rfl rfl).field hf 0 _ rfl rfl
  obtain ⟨x1, v1, r1⟩ := (opn_int (P := Go.Proofs.Tryd.prog) (t := 3) (k := .i64) rfl rfl).field hf 1 _ rfl rfl
  obtain ⟨x2, v2, r2⟩ := (opn_str (P := Go.Proofs.Tryd.prog) (t := 9) rfl rfl).field hf 2 _ rfl rfl
  obtain ⟨x3, v3, r3⟩ := (opn_str (P := Go.Proofs.Tryd.prog) (t := 9) rfl rfl).field hf 3 _ rfl rfl
  obtain ⟨x4, v4, r4⟩ := (opn_str (P := Go.Proofs.Tryd.prog) (t := 9) rfl rfl).field hf 4 _ rfl rfl
  refine ⟨⟨x0, x1, x2, x3, x4⟩, ⟨v0, v1, v2, v3, v4⟩, ?_⟩
  have hz : RepCs w [] (cs.drop 5) := List.drop_eq_nil_of_le (Nat.le_of_eq (hl.trans rfl))
  exact (List.drop_zero (l := cs)) ▸ ((parts2 (o := 0) r0 (parts2 (o := 1) r1 (parts2 (o := 2) r2 (parts2 (o := 3) r3 (parts2 (o := 4) r4 hz))))) : RepCs w _ (cs.drop 0)), rfl⟩
/-- ParseRight out of its typed function. -/
theorem ParseRight_calls (m : Option Nat) (H : ∀ (a1 : GParser) (a2 : List Int), V24 m a1 → (FitN m a2.length (Go.Proofs.Tryd.prog.bytesOf 3) ∧ ∀ x ∈ a2, (Lit.int .i64 x).wf = true) → f4 a1 a2 = some true)
    (v0 : Value) (v1 : Value) (w : World) (h0 : Arg m Go.Proofs.Tryd.prog w 24 v0) (h1 : Arg m Go.Proofs.Tryd.prog w 22 v1) (hm : ∃ m, w.cell? ⟨2, 0, none⟩ = some (.int .i64 m)) : Calls Go.Proofs.Tryd.prog 4 #[v0, v1] w fun e w' => e = .returned (.bool true) ∧ Below w.heap.size w w' := by
  obtain ⟨c0, rfl, g0⟩ := h0.agg (.inl ⟨_, rfl⟩)
  obtain ⟨x0, y0, r0⟩ := opn24.op m w _ g0
  obtain ⟨v1', rfl, g1, _⟩ := h1.slice rfl
  obtain ⟨x1, y1, r1⟩ := (opn_sl (P := Go.Proofs.Tryd.prog) (t := 22) (e := 3) rfl rfl (opn_int (P := Go.Proofs.Tryd.prog) (t := 3) (k := .i64) rfl rfl) (Nat.le_of_ble_eq_true rfl)).op m w _ g1
  obtain ⟨u1, _, e1, r1, q1⟩ := r1
  cases q1; cases e1
  exact law_calls (baseL_snd _ _ (fun _ _ _ h => by cases h) hm) codes_ok (f4_ok 8 (Nat.le_refl _) x0 x1 true (H x0 x1 y0 y1)) ⟨_, _, rfl, arg_agg r0, ⟨_, _, rfl, r1, rfl⟩⟩
/-- ParseCuts out of its typed function. -/
theorem ParseCuts_calls (m : Option Nat) (H : ∀ (a1 : GParser) (a2 : List Int) (a3 : List Int), V24 m a1 → (FitN m a2.length (Go.Proofs.Tryd.prog.bytesOf 3) ∧ ∀ x ∈ a2, (Lit.int .i64 x).wf = true) → (FitN m a3.length (Go.Proofs.Tryd.prog.bytesOf 3) ∧ ∀ x ∈ a3, (Lit.int .i64 x).wf = true) → f5 a1 a2 a3 = some true)
    (v0 : Value) (v1 : Value) (v2 : Value) (w : World) (h0 : Arg m Go.Proofs.Tryd.prog w 24 v0) (h1 : Arg m Go.Proofs.Tryd.prog w 22 v1) (h2 : Arg m Go.Proofs.Tryd.prog w 22 v2) (hm : ∃ m, w.cell? ⟨2, 0, none⟩ = some (.int .i64 m)) : Calls Go.Proofs.Tryd.prog 5 #[v0, v1, v2] w fun e w' => e = .returned (.bool true) ∧ Below w.heap.size w w' := by
  obtain ⟨c0, rfl, g0⟩ := h0.agg (.inl ⟨_, rfl⟩)
  obtain ⟨x0, y0, r0⟩ := opn24.op m w _ g0
  obtain ⟨v1', rfl, g1, _⟩ := h1.slice rfl
  obtain ⟨x1, y1, r1⟩ := (opn_sl (P := Go.Proofs.Tryd.prog) (t := 22) (e := 3) rfl rfl (opn_int (P := Go.Proofs.Tryd.prog) (t := 3) (k := .i64) rfl rfl) (Nat.le_of_ble_eq_true rfl)).op m w _ g1
  obtain ⟨u1, _, e1, r1, q1⟩ := r1
  cases q1; cases e1
  obtain ⟨v2', rfl, g2, _⟩ := h2.slice rfl
  obtain ⟨x2, y2, r2⟩ := (opn_sl (P := Go.Proofs.Tryd.prog) (t := 22) (e := 3) rfl rfl (opn_int (P := Go.Proofs.Tryd.prog) (t := 3) (k := .i64) rfl rfl) (Nat.le_of_ble_eq_true rfl)).op m w _ g2
  obtain ⟨u2, _, e2, r2, q2⟩ := r2
  cases q2; cases e2
  exact law_calls (baseL_snd _ _ (fun _ _ _ h => by cases h) hm) codes_ok (f5_ok 8 (Nat.le_refl _) x0 x1 x2 true (H x0 x1 x2 y0 y1 y2)) ⟨_, _, rfl, arg_agg r0, ⟨_, _, rfl, r1, ⟨_, _, rfl, r2, rfl⟩⟩⟩
/-- ParseHeals out of its typed function. -/
theorem ParseHeals_calls (m : Option Nat) (H : ∀ (a1 : GParser) (a2 : List Int) (a3 : List Int), V24 m a1 → (FitN m a2.length (Go.Proofs.Tryd.prog.bytesOf 3) ∧ ∀ x ∈ a2, (Lit.int .i64 x).wf = true) → (FitN m a3.length (Go.Proofs.Tryd.prog.bytesOf 3) ∧ ∀ x ∈ a3, (Lit.int .i64 x).wf = true) → f6 a1 a2 a3 = some true)
    (v0 : Value) (v1 : Value) (v2 : Value) (w : World) (h0 : Arg m Go.Proofs.Tryd.prog w 24 v0) (h1 : Arg m Go.Proofs.Tryd.prog w 22 v1) (h2 : Arg m Go.Proofs.Tryd.prog w 22 v2) (hm : ∃ m, w.cell? ⟨2, 0, none⟩ = some (.int .i64 m)) : Calls Go.Proofs.Tryd.prog 6 #[v0, v1, v2] w fun e w' => e = .returned (.bool true) ∧ Below w.heap.size w w' := by
  obtain ⟨c0, rfl, g0⟩ := h0.agg (.inl ⟨_, rfl⟩)
  obtain ⟨x0, y0, r0⟩ := opn24.op m w _ g0
  obtain ⟨v1', rfl, g1, _⟩ := h1.slice rfl
  obtain ⟨x1, y1, r1⟩ := (opn_sl (P := Go.Proofs.Tryd.prog) (t := 22) (e := 3) rfl rfl (opn_int (P := Go.Proofs.Tryd.prog) (t := 3) (k := .i64) rfl rfl) (Nat.le_of_ble_eq_true rfl)).op m w _ g1
  obtain ⟨u1, _, e1, r1, q1⟩ := r1
  cases q1; cases e1
  obtain ⟨v2', rfl, g2, _⟩ := h2.slice rfl
  obtain ⟨x2, y2, r2⟩ := (opn_sl (P := Go.Proofs.Tryd.prog) (t := 22) (e := 3) rfl rfl (opn_int (P := Go.Proofs.Tryd.prog) (t := 3) (k := .i64) rfl rfl) (Nat.le_of_ble_eq_true rfl)).op m w _ g2
  obtain ⟨u2, _, e2, r2, q2⟩ := r2
  cases q2; cases e2
  exact law_calls (baseL_snd _ _ (fun _ _ _ h => by cases h) hm) codes_ok (f6_ok 8 (Nat.le_refl _) x0 x1 x2 true (H x0 x1 x2 y0 y1 y2)) ⟨_, _, rfl, arg_agg r0, ⟨_, _, rfl, r1, ⟨_, _, rfl, r2, rfl⟩⟩⟩
end Go.Proofs.YtakmihemhmdpkaaDoor.Pm
