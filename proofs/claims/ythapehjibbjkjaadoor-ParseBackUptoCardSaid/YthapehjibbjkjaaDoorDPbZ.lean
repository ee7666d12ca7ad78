/- The laws out of their typed functions. Printed by dec.py. -/
import Derived.Test.YthapehjibbjkjaaDoorPb
import Derived.Test.YthapehjibbjkjaaDoorDPbF
import Derived.Test.YthapehjibbjkjaaDoorDPbL
namespace Go.Proofs.YthapehjibbjkjaaDoor.Pm
set_option maxRecDepth 1000000
set_option maxHeartbeats 20000000
set_option linter.unusedVariables false
open Go.Proofs.YthapehjibbjkjaaDoor.Args
open Go.ChangeShapes Go.WideShapes Go.ChangeAt Go.RowKit
def V25 (m : Option Nat) (x : GAct) : Prop := (Lit.int .i64 x.Kind).wf = true ∧ (Lit.int .i64 x.Code).wf = true ∧ (Lit.int .i64 x.Mark).wf = true ∧ (x.Inter.length ≤ maxLen ∧ FitN m x.Inter.length 1) ∧ (FitN m x.Args.length (Go.Proofs.Tryd.prog.bytesOf 3) ∧ ∀ y ∈ x.Args, (Lit.int .i64 y).wf = true) ∧ (x.Text.length ≤ maxLen ∧ FitN m x.Text.length 1)
theorem opn25 : Opn Go.Proofs.Tryd.prog 25 e_GAct V25 := ⟨fun m w cs h => by
  obtain ⟨hl, hf⟩ := h.struct rfl
  obtain ⟨x0, v0, r0⟩ := (opn_int (P := Go.Proofs.Tryd.prog) (t := 3) (k := .i64) rfl rfl).field hf 0 _ rfl rfl
  obtain ⟨x1, v1, r1⟩ := (opn_int (P := Go.Proofs.Tryd.prog) (t := 3) (k := .i64) rfl rfl).field hf 1 _ rfl rfl
  obtain ⟨x2, v2, r2⟩ := (opn_int (P := Go.Proofs.Tryd.prog) (t := 3) (k := .i64) rfl rfl).field hf 2 _ rfl rfl
  obtain ⟨x3, v3, r3⟩ := (opn_str (P := Go.Proofs.Tryd.prog) (t := 9) rfl rfl).field hf 3 _ rfl rfl
  obtain ⟨x4, v4, r4⟩ := (opn_sl (P := Go.Proofs.Tryd.prog) (t := 23) (e := 3) rfl rfl (opn_int (P := Go.Proofs.Tryd.prog) (t := 3) (k := .i64) rfl rfl) (Nat.le_of_ble_eq_true rfl)).field hf 4 _ rfl rfl
  obtain ⟨x5, v5, r5⟩ := (opn_str (P := Go.Proofs.Tryd.prog) (t := 9) rfl rfl).field hf 5 _ rfl rfl
  refine ⟨⟨x0, x1, x2, x3, x4, x5⟩, ⟨v0, v1, v2, v3, v4, v5⟩, ?_⟩
  have hz : RepCs w [] (cs.drop 6) := List.drop_eq_nil_of_le (Nat.le_of_eq (hl.trans rfl))
  exact (List.drop_zero (l := cs)) ▸ ((parts2 (o := 0) r0 (parts2 (o := 1) r1 (parts2 (o := 2) r2 (parts2 (o := 3) r3 (parts2 (o := 4) r4 (parts2 (o := 5) r5 hz)))))) : RepCs w _ (cs.drop 0)), rfl⟩
/-- ParseBack out of its typed function. -/
theorem ParseBack_calls (m : Option Nat) (H : ∀ (a1 : List GAct), (FitN m a1.length (Go.Proofs.Tryd.prog.bytesOf 25) ∧ ∀ x ∈ a1, V25 m x) → f3 a1 = some true)
    (v0 : Value) (w : World) (h0 : Arg m Go.Proofs.Tryd.prog w 22 v0) (hm : ∃ m, w.cell? ⟨2, 0, none⟩ = some (.int .i64 m)) (ht : Lib.TabIs Go.Proofs.Tryd.prog w "internal/strconv.uint64pow10" .u64 Lib.pow10Tab) (hu : Lib.Utf8Tabs 0 1 w) : Calls Go.Proofs.Tryd.prog 3 #[v0] w fun e w' => e = .returned (.bool true) ∧ Below w.heap.size w w' := by
  obtain ⟨v0', rfl, g0, _⟩ := h0.slice rfl
  obtain ⟨x0, y0, r0⟩ := (opn_sl (P := Go.Proofs.Tryd.prog) (t := 22) (e := 25) rfl rfl opn25 (Nat.le_of_ble_eq_true rfl)).op m w _ g0
  obtain ⟨u0, _, e0, r0, q0⟩ := r0
  cases q0; cases e0
  exact law_calls (baseL_snd _ _ (fun _ _ _ h => by cases h) hm ht hu) codes_ok (f3_ok 8 (Nat.le_refl _) x0 true (H x0 y0)) ⟨_, _, rfl, r0, rfl⟩
end Go.Proofs.YthapehjibbjkjaaDoor.Pm
