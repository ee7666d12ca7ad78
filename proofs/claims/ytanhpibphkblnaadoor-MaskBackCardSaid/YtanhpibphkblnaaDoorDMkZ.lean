/- The laws out of their typed functions. Printed by dec.py. -/
import Derived.Test.YtanhpibphkblnaaDoorPb
import Derived.Test.YtanhpibphkblnaaDoorDMkD
import Derived.Test.YtanhpibphkblnaaDoorDMkL
namespace Go.Proofs.YtanhpibphkblnaaDoor.Pm
set_option maxRecDepth 1000000
set_option maxHeartbeats 20000000
set_option linter.unusedVariables false
open Go.Proofs.YtanhpibphkblnaaDoor.Args
open Go.ChangeShapes Go.WideShapes Go.ChangeAt Go.RowKit
/-- MaskSets out of its typed function. -/
theorem MaskSets_calls (m : Option Nat) (H : ∀ (a1 : List UInt8) (a2 : List UInt8) (a3 : UInt8), (a1.length ≤ maxLen ∧ FitN m a1.length 1) → (a2.length ≤ maxLen ∧ FitN m a2.length 1) → True → f3 a1 a2 a3 = some true)
    (v0 : Value) (v1 : Value) (v2 : Value) (w : World) (h0 : Arg m Go.Proofs.Tryd.prog w 9 v0) (h1 : Arg m Go.Proofs.Tryd.prog w 9 v1) (h2 : Arg m Go.Proofs.Tryd.prog w 5 v2) : Calls Go.Proofs.Tryd.prog 3 #[v0, v1, v2] w fun e w' => e = .returned (.bool true) ∧ Below w.heap.size w w' := by
  obtain ⟨x0, y0, r0⟩ := (opn_str (P := Go.Proofs.Tryd.prog) (t := 9) rfl rfl).op m w _ h0.1
  obtain ⟨n0, rfl, _⟩ := h0.string rfl
  obtain ⟨u0, _, e0, r0, q0⟩ := r0
  cases q0; cases e0
  obtain ⟨x1, y1, r1⟩ := (opn_str (P := Go.Proofs.Tryd.prog) (t := 9) rfl rfl).op m w _ h1.1
  obtain ⟨n1, rfl, _⟩ := h1.string rfl
  obtain ⟨u1, _, e1, r1, q1⟩ := r1
  cases q1; cases e1
  obtain ⟨x2, y2, r2⟩ := (opn_u8 (P := Go.Proofs.Tryd.prog) (t := 5) rfl rfl).op m w _ h2.1
  obtain ⟨n2, rfl, _⟩ := h2.int rfl
  obtain ⟨u2, _, e2, r2, q2⟩ := r2
  cases q2; cases e2
  exact law_calls (baseL_snd _ _) codes_ok (f3_ok 4 (Nat.le_refl _) x0 x1 x2 true (H x0 x1 x2 y0 y1 y2)) ⟨_, _, rfl, r0, ⟨_, _, rfl, r1, ⟨_, _, rfl, r2, rfl⟩⟩⟩
def e_GMask : Enc GMask := (eCat (ePre GMask.Bits (eArr 4 (eInt .u64))) eNil)
def V25 (m : Option Nat) (x : GMask) : Prop := (∀ i, i < 4 → (Lit.int .u64 (x.Bits i)).wf = true)
theorem opn25 : Opn Go.Proofs.Tryd.prog 25 e_GMask V25 := ⟨fun m w cs h => by
  obtain ⟨hl, hf⟩ := h.struct rfl
  obtain ⟨x0, v0, r0⟩ := (opn_arr (P := Go.Proofs.Tryd.prog) (t := 23) (e := 22) rfl (opn_int (P := Go.Proofs.Tryd.prog) (t := 22) (k := .u64) rfl rfl) rfl).field hf 0 _ rfl rfl
  refine ⟨⟨x0⟩, v0, ?_⟩
  have hz : RepCs w [] (cs.drop 4) := List.drop_eq_nil_of_le (Nat.le_of_eq (hl.trans rfl))
  exact (List.drop_zero (l := cs)) ▸ ((parts2 (o := 0) r0 hz) : RepCs w _ (cs.drop 0)), rfl⟩
/-- MaskBack out of its typed function. -/
theorem MaskBack_calls (m : Option Nat) (H : ∀ (a1 : GMask) (a2 : List UInt8), V25 m a1 → (a2.length ≤ maxLen ∧ FitN m a2.length 1) → f4 a1 a2 = some true)
    (v0 : Value) (v1 : Value) (w : World) (h0 : Arg m Go.Proofs.Tryd.prog w 25 v0) (h1 : Arg m Go.Proofs.Tryd.prog w 9 v1) : Calls Go.Proofs.Tryd.prog 4 #[v0, v1] w fun e w' => e = .returned (.bool true) ∧ Below w.heap.size w w' := by
  obtain ⟨c0, rfl, g0⟩ := h0.agg (.inl ⟨_, rfl⟩)
  obtain ⟨x0, y0, r0⟩ := opn25.op m w _ g0
  obtain ⟨x1, y1, r1⟩ := (opn_str (P := Go.Proofs.Tryd.prog) (t := 9) rfl rfl).op m w _ h1.1
  obtain ⟨n1, rfl, _⟩ := h1.string rfl
  obtain ⟨u1, _, e1, r1, q1⟩ := r1
  cases q1; cases e1
  exact law_calls (baseL_snd _ _) codes_ok (f4_ok 4 (Nat.le_refl _) x0 x1 true (H x0 x1 y0 y1)) ⟨_, _, rfl, ⟨_, rfl, by have q := r0.repL (R := fun _ _ => False); simpa only [e_GMask, eCat, ePre, eNil, List.map_append, eArr_map, List.map_cons, List.map_nil, List.append_nil, List.cons_append, List.nil_append] using q⟩, ⟨_, _, rfl, r1, rfl⟩⟩
end Go.Proofs.YtanhpibphkblnaaDoor.Pm
