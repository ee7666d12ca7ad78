/- The laws out of their typed functions. Printed by dec.py. -/
import Derived.Test.YtncgibcnibbdeaaDoorPb
import Derived.Test.YtncgibcnibbdeaaDoorDChE
import Derived.Test.YtncgibcnibbdeaaDoorDChL
namespace Go.Proofs.YtncgibcnibbdeaaDoor.Pm
set_option maxRecDepth 1000000
set_option maxHeartbeats 20000000
set_option linter.unusedVariables false
open Go.Proofs.YtncgibcnibbdeaaDoor.Args
open Go.ChangeShapes Go.WideShapes Go.ChangeAt Go.RowKit
/-- ChoiceWords out of its typed function. -/
theorem ChoiceWords_calls (m : Option Nat) (H : ∀ (a1 : List (List UInt8)), (FitN m a1.length (Go.Proofs.Tryd.prog.bytesOf 9) ∧ ∀ x ∈ a1, (x.length ≤ maxLen ∧ FitN m x.length 1)) → f3 a1 = some true)
    (v0 : Value) (w : World) (h0 : Arg m Go.Proofs.Tryd.prog w 22 v0) (hm : ∃ m, w.cell? ⟨0, 0, none⟩ = some (.int .i64 m)) : Calls Go.Proofs.Tryd.prog 3 #[v0] w fun e w' => e = .returned (.bool true) ∧ Below w.heap.size w w' := by
  obtain ⟨v0', rfl, g0, _⟩ := h0.slice rfl
  obtain ⟨x0, y0, r0⟩ := (opn_sl (P := Go.Proofs.Tryd.prog) (t := 22) (e := 9) rfl rfl (opn_str (P := Go.Proofs.Tryd.prog) (t := 9) rfl rfl) (Nat.le_of_ble_eq_true rfl)).op m w _ g0
  obtain ⟨u0, _, e0, r0, q0⟩ := r0
  cases q0; cases e0
  exact law_calls (baseL_snd _ _ (fun _ _ _ h => by cases h) hm) codes_ok (f3_ok 7 (Nat.le_refl _) x0 true (H x0 y0)) ⟨_, _, rfl, r0, rfl⟩
/-- ChoiceMeets out of its typed function. -/
theorem ChoiceMeets_calls (m : Option Nat) (H : ∀ (a1 : List (List UInt8)) (a2 : List (List UInt8)), (FitN m a1.length (Go.Proofs.Tryd.prog.bytesOf 9) ∧ ∀ x ∈ a1, (x.length ≤ maxLen ∧ FitN m x.length 1)) → (FitN m a2.length (Go.Proofs.Tryd.prog.bytesOf 9) ∧ ∀ x ∈ a2, (x.length ≤ maxLen ∧ FitN m x.length 1)) → f4 a1 a2 = some true)
    (v0 : Value) (v1 : Value) (w : World) (h0 : Arg m Go.Proofs.Tryd.prog w 22 v0) (h1 : Arg m Go.Proofs.Tryd.prog w 22 v1) (hm : ∃ m, w.cell? ⟨0, 0, none⟩ = some (.int .i64 m)) : Calls Go.Proofs.Tryd.prog 4 #[v0, v1] w fun e w' => e = .returned (.bool true) ∧ Below w.heap.size w w' := by
  obtain ⟨v0', rfl, g0, _⟩ := h0.slice rfl
  obtain ⟨x0, y0, r0⟩ := (opn_sl (P := Go.Proofs.Tryd.prog) (t := 22) (e := 9) rfl rfl (opn_str (P := Go.Proofs.Tryd.prog) (t := 9) rfl rfl) (Nat.le_of_ble_eq_true rfl)).op m w _ g0
  obtain ⟨u0, _, e0, r0, q0⟩ := r0
  cases q0; cases e0
  obtain ⟨v1', rfl, g1, _⟩ := h1.slice rfl
  obtain ⟨x1, y1, r1⟩ := (opn_sl (P := Go.Proofs.Tryd.prog) (t := 22) (e := 9) rfl rfl (opn_str (P := Go.Proofs.Tryd.prog) (t := 9) rfl rfl) (Nat.le_of_ble_eq_true rfl)).op m w _ g1
  obtain ⟨u1, _, e1, r1, q1⟩ := r1
  cases q1; cases e1
  exact law_calls (baseL_snd _ _ (fun _ _ _ h => by cases h) hm) codes_ok (f4_ok 7 (Nat.le_refl _) x0 x1 true (H x0 x1 y0 y1)) ⟨_, _, rfl, r0, ⟨_, _, rfl, r1, rfl⟩⟩
/-- ChoiceSame out of its typed function. -/
theorem ChoiceSame_calls (m : Option Nat) (H : ∀ (a1 : List (List UInt8)) (a2 : List UInt8) (a3 : Bool), (FitN m a1.length (Go.Proofs.Tryd.prog.bytesOf 9) ∧ ∀ x ∈ a1, (x.length ≤ maxLen ∧ FitN m x.length 1)) → (a2.length ≤ maxLen ∧ FitN m a2.length 1) → True → f5 a1 a2 a3 = some true)
    (v0 : Value) (v1 : Value) (v2 : Value) (w : World) (h0 : Arg m Go.Proofs.Tryd.prog w 22 v0) (h1 : Arg m Go.Proofs.Tryd.prog w 9 v1) (h2 : Arg m Go.Proofs.Tryd.prog w 4 v2) (hm : ∃ m, w.cell? ⟨0, 0, none⟩ = some (.int .i64 m)) : Calls Go.Proofs.Tryd.prog 5 #[v0, v1, v2] w fun e w' => e = .returned (.bool true) ∧ Below w.heap.size w w' := by
  obtain ⟨v0', rfl, g0, _⟩ := h0.slice rfl
  obtain ⟨x0, y0, r0⟩ := (opn_sl (P := Go.Proofs.Tryd.prog) (t := 22) (e := 9) rfl rfl (opn_str (P := Go.Proofs.Tryd.prog) (t := 9) rfl rfl) (Nat.le_of_ble_eq_true rfl)).op m w _ g0
  obtain ⟨u0, _, e0, r0, q0⟩ := r0
  cases q0; cases e0
  obtain ⟨x1, y1, r1⟩ := (opn_str (P := Go.Proofs.Tryd.prog) (t := 9) rfl rfl).op m w _ h1.1
  obtain ⟨n1, rfl, _⟩ := h1.string rfl
  obtain ⟨u1, _, e1, r1, q1⟩ := r1
  cases q1; cases e1
  obtain ⟨x2, y2, r2⟩ := (opn_bool (P := Go.Proofs.Tryd.prog) (t := 4) rfl rfl).op m w _ h2.1
  obtain ⟨n2, rfl⟩ := h2.bool rfl
  obtain ⟨u2, _, e2, r2, q2⟩ := r2
  cases q2; cases e2
  exact law_calls (baseL_snd _ _ (fun _ _ _ h => by cases h) hm) codes_ok (f5_ok 7 (Nat.le_refl _) x0 x1 x2 true (H x0 x1 x2 y0 y1 y2)) ⟨_, _, rfl, r0, ⟨_, _, rfl, r1, ⟨_, _, rfl, r2, rfl⟩⟩⟩
end Go.Proofs.YtncgibcnibbdeaaDoor.Pm
