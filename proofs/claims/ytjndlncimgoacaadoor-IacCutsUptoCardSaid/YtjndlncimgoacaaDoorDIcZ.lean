/- The laws out of their typed functions. Printed by dec.py. -/
import Derived.Test.YtjndlncimgoacaaDoorPb
import Derived.Test.YtjndlncimgoacaaDoorDIcE
import Derived.Test.YtjndlncimgoacaaDoorDIcL
namespace Go.Proofs.YtjndlncimgoacaaDoor.Pm
set_option maxRecDepth 1000000
set_option maxHeartbeats 20000000
set_option linter.unusedVariables false
open Go.Proofs.YtjndlncimgoacaaDoor.Args
open Go.ChangeShapes Go.WideShapes Go.ChangeAt Go.RowKit
/-- IacPlain out of its typed function. -/
theorem IacPlain_calls (m : Option Nat) (H : ∀ (a1 : List UInt8), (a1.length ≤ maxLen ∧ FitN m a1.length 1) → f3 a1 = some true)
    (v0 : Value) (w : World) (h0 : Arg m Go.Proofs.Tryd.prog w 9 v0) (hm : ∃ m, w.cell? ⟨0, 0, none⟩ = some (.int .i64 m)) : Calls Go.Proofs.Tryd.prog 3 #[v0] w fun e w' => e = .returned (.bool true) ∧ Below w.heap.size w w' := by
  obtain ⟨x0, y0, r0⟩ := (opn_str (P := Go.Proofs.Tryd.prog) (t := 9) rfl rfl).op m w _ h0.1
  obtain ⟨n0, rfl, _⟩ := h0.string rfl
  obtain ⟨u0, _, e0, r0, q0⟩ := r0
  cases q0; cases e0
  exact law_calls (baseL_snd _ _ (fun _ _ h => by cases h) hm) codes_ok (f3_ok 7 (Nat.le_refl _) x0 true (H x0 y0)) ⟨_, _, rfl, r0, rfl⟩
def V23 (m : Option Nat) (x : GWire) : Prop := (Lit.int .i64 x.Mode).wf = true ∧ (Lit.int .i64 x.Cmd).wf = true ∧ (Lit.int .i64 x.Opt).wf = true ∧ (x.Buf.length ≤ maxLen ∧ FitN m x.Buf.length 1) ∧ True
theorem opn23 : Opn Go.Proofs.Tryd.prog 23 e_GWire V23 := ⟨fun m w cs h => by
  obtain ⟨hl, hf⟩ := h.struct rfl
  obtain ⟨x0, v0, r0⟩ := (opn_int (P := Go.Proofs.Tryd.prog) (t := 3) (k := .i64) rfl rfl).field hf 0 _ rfl rfl
  obtain ⟨x1, v1, r1⟩ := (opn_int (P := Go.Proofs.Tryd.prog) (t := 3) (k := .i64) rfl rfl).field hf 1 _ rfl rfl
  obtain ⟨x2, v2, r2⟩ := (opn_int (P := Go.Proofs.Tryd.prog) (t := 3) (k := .i64) rfl rfl).field hf 2 _ rfl rfl
  obtain ⟨x3, v3, r3⟩ := (opn_str (P := Go.Proofs.Tryd.prog) (t := 9) rfl rfl).field hf 3 _ rfl rfl
  obtain ⟨x4, v4, r4⟩ := (opn_bool (P := Go.Proofs.Tryd.prog) (t := 4) rfl rfl).field hf 4 _ rfl rfl
  refine ⟨⟨x0, x1, x2, x3, x4⟩, ⟨v0, v1, v2, v3, v4⟩, ?_⟩
  have hz : RepCs w [] (cs.drop 5) := List.drop_eq_nil_of_le (Nat.le_of_eq (hl.trans rfl))
  exact (List.drop_zero (l := cs)) ▸ ((parts2 (o := 0) r0 (parts2 (o := 1) r1 (parts2 (o := 2) r2 (parts2 (o := 3) r3 (parts2 (o := 4) r4 hz))))) : RepCs w _ (cs.drop 0)), rfl⟩
/-- IacRight out of its typed function. -/
theorem IacRight_calls (m : Option Nat) (H : ∀ (a1 : GWire) (a2 : List UInt8), V23 m a1 → (a2.length ≤ maxLen ∧ FitN m a2.length 1) → f4 a1 a2 = some true)
    (v0 : Value) (v1 : Value) (w : World) (h0 : Arg m Go.Proofs.Tryd.prog w 23 v0) (h1 : Arg m Go.Proofs.Tryd.prog w 9 v1) (hm : ∃ m, w.cell? ⟨0, 0, none⟩ = some (.int .i64 m)) : Calls Go.Proofs.Tryd.prog 4 #[v0, v1] w fun e w' => e = .returned (.bool true) ∧ Below w.heap.size w w' := by
  obtain ⟨c0, rfl, g0⟩ := h0.agg (.inl ⟨_, rfl⟩)
  obtain ⟨x0, y0, r0⟩ := opn23.op m w _ g0
  obtain ⟨x1, y1, r1⟩ := (opn_str (P := Go.Proofs.Tryd.prog) (t := 9) rfl rfl).op m w _ h1.1
  obtain ⟨n1, rfl, _⟩ := h1.string rfl
  obtain ⟨u1, _, e1, r1, q1⟩ := r1
  cases q1; cases e1
  exact law_calls (baseL_snd _ _ (fun _ _ h => by cases h) hm) codes_ok (f4_ok 7 (Nat.le_refl _) x0 x1 true (H x0 x1 y0 y1)) ⟨_, _, rfl, arg_agg r0, ⟨_, _, rfl, r1, rfl⟩⟩
def V31 (m : Option Nat) (x : GTok) : Prop := (Lit.int .i64 x.Kind).wf = true ∧ (Lit.int .i64 x.Cmd).wf = true ∧ (Lit.int .i64 x.Opt).wf = true ∧ (x.Data.length ≤ maxLen ∧ FitN m x.Data.length 1)
theorem opn31 : Opn Go.Proofs.Tryd.prog 31 e_GTok V31 := ⟨fun m w cs h => by
  obtain ⟨hl, hf⟩ := h.struct rfl
  obtain ⟨x0, v0, r0⟩ := (opn_int (P := Go.Proofs.Tryd.prog) (t := 3) (k := .i64) rfl rfl).field hf 0 _ rfl rfl
  obtain ⟨x1, v1, r1⟩ := (opn_int (P := Go.Proofs.Tryd.prog) (t := 3) (k := .i64) rfl rfl).field hf 1 _ rfl rfl
  obtain ⟨x2, v2, r2⟩ := (opn_int (P := Go.Proofs.Tryd.prog) (t := 3) (k := .i64) rfl rfl).field hf 2 _ rfl rfl
  obtain ⟨x3, v3, r3⟩ := (opn_str (P := Go.Proofs.Tryd.prog) (t := 9) rfl rfl).field hf 3 _ rfl rfl
  refine ⟨⟨x0, x1, x2, x3⟩, ⟨v0, v1, v2, v3⟩, ?_⟩
  have hz : RepCs w [] (cs.drop 4) := List.drop_eq_nil_of_le (Nat.le_of_eq (hl.trans rfl))
  exact (List.drop_zero (l := cs)) ▸ ((parts2 (o := 0) r0 (parts2 (o := 1) r1 (parts2 (o := 2) r2 (parts2 (o := 3) r3 hz)))) : RepCs w _ (cs.drop 0)), rfl⟩
/-- IacAgain out of its typed function. -/
theorem IacAgain_calls (m : Option Nat) (H : ∀ (a1 : GWire) (a2 : List UInt8) (a3 : GTok), V23 m a1 → (a2.length ≤ maxLen ∧ FitN m a2.length 1) → V31 m a3 → f5 a1 a2 a3 = some true)
    (v0 : Value) (v1 : Value) (v2 : Value) (w : World) (h0 : Arg m Go.Proofs.Tryd.prog w 23 v0) (h1 : Arg m Go.Proofs.Tryd.prog w 9 v1) (h2 : Arg m Go.Proofs.Tryd.prog w 31 v2) (hm : ∃ m, w.cell? ⟨0, 0, none⟩ = some (.int .i64 m)) : Calls Go.Proofs.Tryd.prog 5 #[v0, v1, v2] w fun e w' => e = .returned (.bool true) ∧ Below w.heap.size w w' := by
  obtain ⟨c0, rfl, g0⟩ := h0.agg (.inl ⟨_, rfl⟩)
  obtain ⟨x0, y0, r0⟩ := opn23.op m w _ g0
  obtain ⟨x1, y1, r1⟩ := (opn_str (P := Go.Proofs.Tryd.prog) (t := 9) rfl rfl).op m w _ h1.1
  obtain ⟨n1, rfl, _⟩ := h1.string rfl
  obtain ⟨u1, _, e1, r1, q1⟩ := r1
  cases q1; cases e1
  obtain ⟨c2, rfl, g2⟩ := h2.agg (.inl ⟨_, rfl⟩)
  obtain ⟨x2, y2, r2⟩ := opn31.op m w _ g2
  exact law_calls (baseL_snd _ _ (fun _ _ h => by cases h) hm) codes_ok (f5_ok 7 (Nat.le_refl _) x0 x1 x2 true (H x0 x1 x2 y0 y1 y2)) ⟨_, _, rfl, arg_agg r0, ⟨_, _, rfl, r1, ⟨_, _, rfl, arg_agg r2, rfl⟩⟩⟩
/-- IacCuts out of its typed function. -/
theorem IacCuts_calls (m : Option Nat) (H : ∀ (a1 : GWire) (a2 : List UInt8) (a3 : List UInt8), V23 m a1 → (a2.length ≤ maxLen ∧ FitN m a2.length 1) → (a3.length ≤ maxLen ∧ FitN m a3.length 1) → f6 a1 a2 a3 = some true)
    (v0 : Value) (v1 : Value) (v2 : Value) (w : World) (h0 : Arg m Go.Proofs.Tryd.prog w 23 v0) (h1 : Arg m Go.Proofs.Tryd.prog w 9 v1) (h2 : Arg m Go.Proofs.Tryd.prog w 9 v2) (hm : ∃ m, w.cell? ⟨0, 0, none⟩ = some (.int .i64 m)) : Calls Go.Proofs.Tryd.prog 6 #[v0, v1, v2] w fun e w' => e = .returned (.bool true) ∧ Below w.heap.size w w' := by
  obtain ⟨c0, rfl, g0⟩ := h0.agg (.inl ⟨_, rfl⟩)
  obtain ⟨x0, y0, r0⟩ := opn23.op m w _ g0
  obtain ⟨x1, y1, r1⟩ := (opn_str (P := Go.Proofs.Tryd.prog) (t := 9) rfl rfl).op m w _ h1.1
  obtain ⟨n1, rfl, _⟩ := h1.string rfl
  obtain ⟨u1, _, e1, r1, q1⟩ := r1
  cases q1; cases e1
  obtain ⟨x2, y2, r2⟩ := (opn_str (P := Go.Proofs.Tryd.prog) (t := 9) rfl rfl).op m w _ h2.1
  obtain ⟨n2, rfl, _⟩ := h2.string rfl
  obtain ⟨u2, _, e2, r2, q2⟩ := r2
  cases q2; cases e2
  exact law_calls (baseL_snd _ _ (fun _ _ h => by cases h) hm) codes_ok (f6_ok 7 (Nat.le_refl _) x0 x1 x2 true (H x0 x1 x2 y0 y1 y2)) ⟨_, _, rfl, arg_agg r0, ⟨_, _, rfl, r1, ⟨_, _, rfl, r2, rfl⟩⟩⟩
end Go.Proofs.YtjndlncimgoacaaDoor.Pm
